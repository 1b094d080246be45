/-
  RingTypes: the walk.
-/
import Derived.Test.YtlcjgphibodjkaaGrid
import Derived.Test.YtlcjgphibodjkaaRingT
import Derived.Test.YtlcjgphibodjkaaRingWorks
import Derived.Deep.CutBlock
import Derived.LaidEql
namespace Go.Proofs.Ytlcjgphibodjkaa
open Go.RowKit
open ringT (TH TT TL pc sl tV)

/-- What stands in the lists that came in. -/
def Has (w : World) (a : Option Addr) (j : Nat) (p : TH) : Prop := p.1 = j ∧ ∃ b off, a = some ⟨b, off, none⟩ ∧ b < w.heap.size ∧ w.cell? ⟨b, off + j, none⟩ = some (sl p) ∧ (0 < p.2.2.1 → ∃ c o, p.2.1 = some ⟨c, o, none⟩)
theorem grid_has {w : World} {a : Option Addr} {len cap : Nat} (h : IsGrid .i64 w a len cap) : ∃ T : Nat → TH, ∀ j, j < len → Has w a j (T j) := by
  refine Classical.axiomOfChoice (r := fun j p => j < len → Has w a j p) (fun j => ?_)
  by_cases hj : j < len
  · obtain ⟨b, off, ai, li, ci, zi, h1, h2, h3, h4⟩ := h.at hj
    refine ⟨((j : Int), ai, li, ci), fun _ => ⟨rfl, b, off, h1, h2, h3, fun hl => ?_⟩⟩
    obtain ⟨c, o, h5, _⟩ := h4.at (j := 0) hl
    exact ⟨c, o, h5⟩
  · exact ⟨(0, none, 0, 0), fun h => absurd h hj⟩
theorem neq_same (a : Addr) (w : World) : (binOp .neq 73 (.pointer (some a)) (.pointer (some a))).run Try.prog w = .ok (.bool false) w := by
  obtain ⟨j, hj⟩ : ∃ j, Try.prog.info? 3 = some j := Option.isSome_iff_exists.1 (by kernel_rfl : (Try.prog.info? 3).isSome = true)
  have h : ∀ d : Nat, (Op.equalIn (d + 1) 73 (.pointer (some a)) (.pointer (some a))).run Try.prog w = .ok true w := fun d => by
    simp [Op.equalIn, run_underlying Try.underlying73, sizeOf, typeInfo, hj, run_sameAddr_same]
  simp only [binOp]
  simp [Op.equal, Op.maxDepth, h 9999]
def things (T : Nat → TH) (n : Nat) : List TH := (List.range n).map T
theorem things_length (T : Nat → TH) (n : Nat) : (things T n).length = n := by simp [things]
theorem things_succ (T : Nat → TH) (n : Nat) : things T (n + 1) = things T n ++ [T n] := by simp [things, List.range_succ]
theorem things_drop (T : Nat → TH) (n i : Nat) (h : i < n) : (things T n).drop i = T i :: (things T n).drop (i + 1) := by
  rw [List.drop_eq_getElem_cons (by rw [things_length]; exact h)]
  simp [things]
structure RT (w0 w : World) (r B : Nat) (v : Value) (ps : List TH) : Prop where
  R : ringT.Ring w r B 40 v ps
  bel : Below w0.heap.size w0 w
  h1 : w0.heap.size ≤ r
theorem RT.below {w0 w w' : World} {r B : Nat} {v : Value} {ps : List TH} (h : RT w0 w r B v ps) (k : Below w.heap.size w w') : RT w0 w' r B v ps := ⟨h.R.below k, bthen h.bel k, h.h1⟩
theorem RT.step {w0 w w' : World} {r B : Nat} {v v' : Value} {ps ps' : List TH} (h : RT w0 w r B v ps) (k : Wrote (fun k => k = r ∨ sliceAt v k) w w') (h' : ringT.Ring w' r B 40 v' ps') : RT w0 w' r B v' ps' := by
  have h1 := h.h1
  have h2 := h.R.lt
  refine ⟨h', Wrote.below h.bel k (fun i hi => ?_), h1⟩
  rcases hi with hi | hi
  · omega
  · have := (h.R.q.lt i hi).1
    omega
/-- Beside the ring a row that came out of it. -/
structure RA (w0 w : World) (r B : Nat) (v : Value) (ps : List TH) (a2 : Option Addr) (n : Nat) : Prop where
  t : RT w0 w r B v ps
  at' : ∀ j, j < n → ∃ g o, a2 = some ⟨g, o, none⟩ ∧ w.cell? ⟨g, o + j * 2, none⟩ = some (.int .i64 j)
  ap : ∀ g o, a2 = some ⟨g, o, none⟩ → g ≠ r ∧ ¬ sliceAt v g
theorem RA.below {w0 w w' : World} {r B n : Nat} {v : Value} {ps : List TH} {a2 : Option Addr} (h : RA w0 w r B v ps a2 n) (k : Below w.heap.size w w') : RA w0 w' r B v ps a2 n :=
  ⟨h.t.below k, fun j hj => by
    obtain ⟨g, o, h1, h2⟩ := h.at' j hj
    exact ⟨g, o, h1, (k.cell (p := ⟨g, o + j * 2, none⟩) (World.block_lt_of_cell? w _ h2)).trans h2⟩, h.ap⟩
theorem RA.take {w0 w : World} {r B n : Nat} {v : Value} {p : TH} {ps : List TH} {a2 : Option Addr} (h : Hid (RA w0 w r B v (p :: ps) a2 n)) :
    Calls Try.prog 39 #[.pointer (some ⟨r, 0, none⟩)] w fun e w' => e = .returned (.tuple #[tV p, .bool true]) ∧ ∃ v', Hid (RA w0 w' r B v' ps a2 n) := by
  have h := h.out
  refine (ringT.take r B 40 v p ps w h.t.R).mono ?_
  rintro e w' ⟨rfl, v', k1, k2, k3⟩
  refine ⟨rfl, v', Lib.hid ⟨h.t.step k1 k2, fun j hj => ?_, fun g o e => ⟨(h.ap g o e).1, fun hs => (h.ap g o e).2 (k3 g hs)⟩⟩⟩
  obtain ⟨g, o, h1, h2⟩ := h.at' j hj
  exact ⟨g, o, h1, k1.cell h2 (fun hp => hp.elim (h.ap g o h1).1 (h.ap g o h1).2)⟩
theorem RT.all {w0 w : World} {r B : Nat} {v : Value} {T : Nat → TH} {n : Nat} (h : Hid (RT w0 w r B v (things T n))) (hn : n ≤ 40) (hT : ∀ j, j < n → (T j).1 = j) :
    Calls Try.prog 38 #[.pointer (some ⟨r, 0, none⟩)] w fun e w' => ∃ a2 cap2, e = .returned (.slice a2 n cap2) ∧ Hid (RA w0 w' r B v (things T n) a2 n) := by
  have h := h.out
  refine (ringT.all r B 40 v _ w h.R (by rw [things_length]; omega)).mono ?_
  rintro e w' ⟨v', rfl, hc⟩
  have ho := hc.own
  have hlr := h.R.lt
  have hBw := h.R.hB
  rw [things_length] at ho
  have hr : RT w0 w' r B v (things T n) := h.below hc.bel
  rcases ho.2 with ⟨hv, hn0⟩ | ⟨g, cap, cur, hv, hb, hg, hnc, hcm, hcs, ht⟩
  · subst hn0
    exact ⟨none, 0, by rw [hv], Lib.hid ⟨hr, fun j hj => by omega, fun g o e => by cases e⟩⟩
  · refine ⟨some ⟨g, 0, none⟩, cap, by rw [hv], Lib.hid ⟨hr, fun j hj => ⟨g, 0, rfl, ?_⟩, fun g' o e => ?_⟩⟩
    · subst hv
      have hp := (ringT.pc_at (things T n) j (T j) (by simp [things, hj])).1
      have hcl := ho.cellAt (j * 2) (by omega)
      rw [Nat.zero_add, hcl, hp, hT j hj]
    · simp at e
      obtain ⟨rfl, _⟩ := e
      exact ⟨by omega, fun hs => by have := (h.R.q.lt _ hs).2; omega⟩

set_option maxRecDepth 100000 in
set_option maxHeartbeats 4000000 in
theorem ringTypes_walk (a0 : Option Addr) (len0 cap0 : Nat) (w : World) (hr0 : IsGrid .i64 w a0 len0 cap0) :
    Calls Try.prog 9 #[.slice a0 len0 cap0] w fun e w' => e = .returned (.bool true) ∧ Below w.heap.size w w' := by
  obtain ⟨T, hT⟩ := grid_has hr0
  have HT := Lib.hid hT
  clear hT hr0
  go_enter Try.func9, Try.ntmps9
  go_wp2_with fail
  refine (ringT.new 40 w (by decide) (by decide)).mono ?_
  rintro e w1 ⟨rfl, q1, r1⟩
  have R1 : Hid (RT w w1 w.heap.size (w.heap.size + 1) (.slice none 0 0) (things T 0)) := Lib.hid ⟨r1, q1, Nat.le_refl _⟩
  clear q1 r1
  go_upto_block 0 with fail
  go_cut [] (fun wc => ∃ (n : Nat) (v : Value), n ≤ 40 ∧ n ≤ len0 ∧ (n = len0 ∨ n = 40) ∧ Hid (RT w wc w.heap.size (w.heap.size + 1) v (things T n)))
  case first =>
    go_wp2_with fail
    go_loopw [4] (fun iv wr => ∃ (i : Nat) (v : Value), i ≤ 40 ∧ i ≤ len0 ∧ iv = .int .i64 i ∧ Hid (RT w wr w.heap.size (w.heap.size + 1) v (things T i))) (fun iv _ => 40 - (intOf iv).toNat)
    case atStart => exact ⟨0, _, by omega, by omega, rfl, R1⟩
    case round =>
      obtain ⟨i, v, hi40, hil, rfl, HB⟩ := hrel
      clear R1
      by_cases h1 : i < len0
      · have h1' : (i : Int) < len0 := by omega
        by_cases h2 : i < 40
        · have h2' : (i : Int) < 40 := by omega
          obtain ⟨hi1, b, off, rfl, hb, hc, hsl⟩ := HT.out i h1
          have hcw := (HB.out.bel.cell (p := ⟨b, off + i, none⟩) hb).trans hc
          obtain ⟨x, hx⟩ : ∃ x, T i = x := ⟨_, rfl⟩
          have HTS : Hid (things T (i + 1) = things T i ++ [x]) := Lib.hid (by rw [things_succ, hx])
          rw [hx] at hcw hi1
          obtain ⟨xi, ya, yn, yc⟩ := x
          simp only [ringT.sl] at hi1 hcw
          subst hi1
          clear hc hsl hx
          go_wp2_with fail
          refine (ringT.put w.heap.size (w.heap.size + 1) 40 v (things T i) ((i : Int), ya, yn, yc) _ HB.out.R (by rw [things_length]; exact h2) (by decide)).mono ?_
          rintro e w2 ⟨rfl, v', k1, k2, k3⟩
          have B2 : Hid (RT w w2 w.heap.size (w.heap.size + 1) v' (things T (i + 1))) := Lib.hid (by rw [HTS.out]; exact HB.out.step k1 k2)
          clear k1 k2 k3 HB
          go_wp2_with fail
          exact ⟨⟨i + 1, v', by omega, by omega, by go_num, B2⟩, by simp [intOf]; omega⟩
        · have h2' : ¬ (i : Int) < 40 := by omega
          go_wp2_with fail
          go_meet
          case rel => exact ⟨i, v, hi40, hil, by omega, HB⟩
      · have h1' : ¬ (i : Int) < len0 := by omega
        go_wp2_with fail
        go_meet
        case rel => exact ⟨i, v, hi40, hil, by omega, HB⟩
  case rest =>
    obtain ⟨n, v, hn40, hnl, hn, HB⟩ := hcut
    clear R1
    go_wp2_with fail
    refine (RT.all HB hn40 (fun j hj => (HT.out j (by omega)).1)).mono ?_
    rintro e w2 ⟨a2, cap2, rfl, A2⟩
    clear HB
    by_cases hmin : (len0 : Int) ≤ 40
    · have hnn : n = len0 := by omega
      subst hnn
      go_wp2_with fail
      go_loopw [6] (fun iv wr => ∃ (i : Nat) (v : Value), i ≤ n ∧ iv = .int .i64 i ∧ Hid (RA w wr w.heap.size (w.heap.size + 1) v ((things T n).drop i) a2 n)) (fun iv _ => n - (intOf iv).toNat)
      case atStart => exact ⟨0, v, by omega, rfl, A2⟩
      case round =>
        obtain ⟨i, v, hi, rfl, HB⟩ := hrel
        clear A2
        by_cases h1 : i < n
        · have h1' : (i : Int) < n := by omega
          have h2' : (i : Int) < n := by omega
          obtain ⟨hi1, b, off, rfl, hb, hc, hsl⟩ := HT.out i (by omega)
          obtain ⟨x, hx⟩ : ∃ x, T i = x := ⟨_, rfl⟩
          have hd : Hid ((things T n).drop i = x :: (things T n).drop (i + 1)) := Lib.hid (by rw [things_drop T n i h1, hx])
          rw [hx] at hi1 hc hsl
          obtain ⟨xi, ya, yn, yc⟩ := x
          simp only [ringT.sl] at hi1 hc hsl
          subst hi1
          obtain ⟨g, o, rfl, -⟩ := HB.out.at' i h1
          rw [hd.out] at HB
          clear hd hx
          go_wp2_with fail
          refine (RA.take HB).mono ?_
          rintro e w4 ⟨rfl, v', B4⟩
          clear HB
          have X0 := Blk.new w4 [.int .i64 i, .slice ya yn yc] TT
          have B5 := Lib.hid (B4.out.below ((Below.refl _ _).alloc (Nat.le_refl _) (.cells #[.int .i64 i, .slice ya yn yc] TT)))
          have x0 := X0.cell 0 rfl
          have x1 := X0.cell 1 rfl
          have hl := (B5.out.t.bel.cell (p := ⟨b, off + i, none⟩) hb).trans hc
          obtain ⟨g', o', hg', ha⟩ := B5.out.at' i h1
          simp only [Option.some.injEq, Addr.mk.injEq, and_true] at hg'
          obtain ⟨rfl, rfl⟩ := hg'
          clear X0 B4 hc
          by_cases hy : yn = 0
          · subst hy
            go_wp2_with fail
            go_quiet (fail)
            go_wp2_with fail
            exact ⟨⟨i + 1, v', by omega, by go_num, Lib.hid (B5.out.below ⟨rfl, rfl, rfl, Nat.le_refl _, fun _ _ => rfl⟩)⟩, by simp [intOf]; omega⟩
          · obtain ⟨c, o2, rfl⟩ := hsl (by omega)
            have hy' : (0 : Int) < yn := by omega
            have hyn : 0 < yn := by omega
            have hpe := fun W => neq_same ⟨c, o2, none⟩ W
            go_wp2_with fail
            go_quiet (fail)
            go_wp2_with fail
            exact ⟨⟨i + 1, v', by omega, by go_num, Lib.hid (B5.out.below ⟨rfl, rfl, rfl, Nat.le_refl _, fun _ _ => rfl⟩)⟩, by simp [intOf]; omega⟩
        · have h1' : ¬ (i : Int) < n := by omega
          have he : (things T n).drop i = [] := List.drop_of_length_le (by rw [things_length]; omega)
          rw [he] at HB
          clear he
          go_wp2_with fail
          refine (ringT.first_none _ _ 40 v _ HB.out.t.R).mono ?_
          rintro e w4 ⟨rfl, q4⟩
          have B4 := Lib.hid (HB.out.below q4)
          have B5 := Lib.hid (B4.out.below ((Below.refl _ _).alloc (Nat.le_refl _) (.cells #[.int .i64 0, .slice none 0 0] TT)))
          clear HB q4 B4
          go_wp2_with fail
          refine (ringT.len _ _ 40 v [] _ B5.out.t.R).mono ?_
          rintro e w6 ⟨rfl, rfl⟩
          go_wp2_with fail
          refine (works15 _).mono ?_
          rintro e w7 ⟨rfl, q7⟩
          go_wp2_with fail
          go_returns
          exact ⟨rfl, bthen B5.out.t.bel q7⟩
    · have hnn : n = 40 := by omega
      subst hnn
      have hmin' : (40 : Int) ≤ len0 := by omega
      go_wp2_with fail
      go_loopw [6] (fun iv wr => ∃ (i : Nat) (v : Value), i ≤ 40 ∧ iv = .int .i64 i ∧ Hid (RA w wr w.heap.size (w.heap.size + 1) v ((things T 40).drop i) a2 40)) (fun iv _ => 40 - (intOf iv).toNat)
      case atStart => exact ⟨0, v, by omega, rfl, A2⟩
      case round =>
        obtain ⟨i, v, hi, rfl, HB⟩ := hrel
        clear A2
        by_cases h1 : i < 40
        · have h1' : (i : Int) < 40 := by omega
          have h2' : (i : Int) < len0 := by omega
          obtain ⟨hi1, b, off, rfl, hb, hc, hsl⟩ := HT.out i (by omega)
          obtain ⟨x, hx⟩ : ∃ x, T i = x := ⟨_, rfl⟩
          have hd : Hid ((things T 40).drop i = x :: (things T 40).drop (i + 1)) := Lib.hid (by rw [things_drop T 40 i h1, hx])
          rw [hx] at hi1 hc hsl
          obtain ⟨xi, ya, yn, yc⟩ := x
          simp only [ringT.sl] at hi1 hc hsl
          subst hi1
          obtain ⟨g, o, rfl, -⟩ := HB.out.at' i h1
          rw [hd.out] at HB
          clear hd hx
          go_wp2_with fail
          refine (RA.take HB).mono ?_
          rintro e w4 ⟨rfl, v', B4⟩
          clear HB
          have X0 := Blk.new w4 [.int .i64 i, .slice ya yn yc] TT
          have B5 := Lib.hid (B4.out.below ((Below.refl _ _).alloc (Nat.le_refl _) (.cells #[.int .i64 i, .slice ya yn yc] TT)))
          have x0 := X0.cell 0 rfl
          have x1 := X0.cell 1 rfl
          have hl := (B5.out.t.bel.cell (p := ⟨b, off + i, none⟩) hb).trans hc
          obtain ⟨g', o', hg', ha⟩ := B5.out.at' i h1
          simp only [Option.some.injEq, Addr.mk.injEq, and_true] at hg'
          obtain ⟨rfl, rfl⟩ := hg'
          clear X0 B4 hc
          by_cases hy : yn = 0
          · subst hy
            go_wp2_with fail
            go_quiet (fail)
            go_wp2_with fail
            exact ⟨⟨i + 1, v', by omega, by go_num, Lib.hid (B5.out.below ⟨rfl, rfl, rfl, Nat.le_refl _, fun _ _ => rfl⟩)⟩, by simp [intOf]; omega⟩
          · obtain ⟨c, o2, rfl⟩ := hsl (by omega)
            have hy' : (0 : Int) < yn := by omega
            have hyn : 0 < yn := by omega
            have hpe := fun W => neq_same ⟨c, o2, none⟩ W
            go_wp2_with fail
            go_quiet (fail)
            go_wp2_with fail
            exact ⟨⟨i + 1, v', by omega, by go_num, Lib.hid (B5.out.below ⟨rfl, rfl, rfl, Nat.le_refl _, fun _ _ => rfl⟩)⟩, by simp [intOf]; omega⟩
        · have h1' : ¬ (i : Int) < 40 := by omega
          have he : (things T 40).drop i = [] := List.drop_of_length_le (by rw [things_length]; omega)
          rw [he] at HB
          clear he
          go_wp2_with fail
          refine (ringT.first_none _ _ 40 v _ HB.out.t.R).mono ?_
          rintro e w4 ⟨rfl, q4⟩
          have B4 := Lib.hid (HB.out.below q4)
          have B5 := Lib.hid (B4.out.below ((Below.refl _ _).alloc (Nat.le_refl _) (.cells #[.int .i64 0, .slice none 0 0] TT)))
          clear HB q4 B4
          go_wp2_with fail
          refine (ringT.len _ _ 40 v [] _ B5.out.t.R).mono ?_
          rintro e w6 ⟨rfl, rfl⟩
          go_wp2_with fail
          refine (works15 _).mono ?_
          rintro e w7 ⟨rfl, q7⟩
          go_wp2_with fail
          go_returns
          exact ⟨rfl, bthen B5.out.t.bel q7⟩

end Go.Proofs.Ytlcjgphibodjkaa
