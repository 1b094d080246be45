/-
  RingPlays: the walk.
-/
import Derived.Test.YtlcjgphibodjkaaRingRefill
import Derived.Test.YtlcjgphibodjkaaRingU
import Derived.Test.YtlcjgphibodjkaaHeld
import Derived.OpenShut
import Derived.Deep.CutBlock
namespace Go.Proofs.Ytlcjgphibodjkaa
open Go.RowKit Go.WideShapes

/-- The document's ring of numbers, in block r; its row, in v. -/
def RU (w : World) (r room : Nat) (v : Value) (l : List Int) : Prop := ∃ B, ringU.Ring w r B room v (ivs l)
theorem RU.lt {w : World} {r room : Nat} {v : Value} {l : List Int} (h : RU w r room v l) : r < w.heap.size ∧ ∀ k, sliceAt v k → k < w.heap.size ∧ r < k := by
  obtain ⟨B, h⟩ := h
  exact ⟨h.S.lt, fun k hk => ⟨(h.q.lt k hk).2, by have := (h.q.lt k hk).1; have := h.lt; omega⟩⟩
theorem RU.kept {w w' : World} {r room : Nat} {v : Value} {l : List Int} {p : Nat → Prop} (h : RU w r room v l) (k : Wrote p w w') (hr : ¬ p r) (hv : ∀ j, sliceAt v j → ¬ p j) : RU w' r room v l := by
  obtain ⟨B, h⟩ := h
  exact ⟨B, h.S.kept k hr, h.q.kept k hv, h.one, h.lt, Nat.le_trans h.hB k.size⟩

/-- Both rings, and nothing of what was before. -/
structure B15 (w0 w : World) (r u room : Nat) (v vu : Value) (l lu : List Int) : Prop where
  bel : Below w0.heap.size w0 w
  R : RI w r room v l
  U : RU w u room vu lu
  ler : w0.heap.size ≤ r
  leu : w0.heap.size ≤ u
  ne : r ≠ u
  vr : ∀ k, sliceAt v k → k ≠ u ∧ ¬ sliceAt vu k
  vu : ∀ k, sliceAt vu k → k ≠ r
theorem B15.all {w0 w w' : World} {r u room : Nat} {v vu : Value} {l lu : List Int} {p : Nat → Prop} (h : B15 w0 w r u room v vu l lu) (k : Wrote p w w') (hp : ∀ i, p i → w.heap.size ≤ i) : B15 w0 w' r u room v vu l lu :=
  { h with
    bel := Wrote.below h.bel k (fun i hi => Nat.le_trans h.bel.size (hp i hi))
    R := h.R.kept k (fun e => by have := hp _ e; have := h.R.lt.1; omega) (fun j hj e => by have := hp _ e; have := (h.R.lt.2 j hj).1; omega)
    U := h.U.kept k (fun e => by have := hp _ e; have := h.U.lt.1; omega) (fun j hj e => by have := hp _ e; have := (h.U.lt.2 j hj).1; omega) }
theorem B15.drew {w0 w : World} {r u room : Nat} {v vu : Value} {l lu : List Int} (h : B15 w0 w r u room v vu l lu) : B15 w0 w.drew r u room v vu l lu :=
  h.all (p := fun _ => False) (Wrote.refl _ _).drew (fun _ h => h.elim)
theorem B15.stepR {w0 w w' : World} {r u room : Nat} {v v' vu : Value} {l l' lu : List Int} (h : B15 w0 w r u room v vu l lu) (k : Wrote (fun k => k = r ∨ sliceAt v k) w w') (hs : ∀ k, sliceAt v' k → sliceAt v k ∨ w.heap.size ≤ k) (hr : RI w' r room v' l') :
    B15 w0 w' r u room v' vu l' lu where
  bel := Wrote.below h.bel k (fun i hi => by
    rcases hi with rfl | hi
    · exact h.ler
    · have := (h.R.lt.2 i hi).2; have := h.ler; omega)
  R := hr
  U := h.U.kept k (fun e => by
    rcases e with e | e
    · exact h.ne e.symm
    · exact (h.vr u e).1 rfl) (fun j hj e => by
    rcases e with rfl | e
    · exact h.vu _ hj rfl
    · exact (h.vr j e).2 hj)
  ler := h.ler
  leu := h.leu
  ne := h.ne
  vr := fun j hj => by
    rcases hs j hj with e | e
    · exact h.vr j e
    · exact ⟨by have := h.U.lt.1; omega, fun hu => by have := (h.U.lt.2 j hu).1; omega⟩
  vu := h.vu
theorem B15.stepU {w0 w w' : World} {r u room : Nat} {v vu vu' : Value} {l lu lu' : List Int} (h : B15 w0 w r u room v vu l lu) (k : Wrote (fun k => k = u ∨ sliceAt vu k) w w') (hs : ∀ k, sliceAt vu' k → sliceAt vu k ∨ w.heap.size ≤ k) (hr : RU w' u room vu' lu') :
    B15 w0 w' r u room v vu' l lu' where
  bel := Wrote.below h.bel k (fun i hi => by
    rcases hi with rfl | hi
    · exact h.leu
    · have := (h.U.lt.2 i hi).2; have := h.leu; omega)
  R := h.R.kept k (fun e => by
    rcases e with e | e
    · exact h.ne e
    · exact h.vu r e rfl) (fun j hj e => by
    rcases e with rfl | e
    · exact (h.vr _ hj).1 rfl
    · exact (h.vr j hj).2 e)
  U := hr
  ler := h.ler
  leu := h.leu
  ne := h.ne
  vr := fun j hj => ⟨(h.vr j hj).1, fun e => by
    rcases hs j e with e | e
    · exact (h.vr j hj).2 e
    · have := (h.R.lt.2 j hj).1; omega⟩
  vu := fun j hj => by
    rcases hs j hj with e | e
    · exact h.vu j e
    · have := h.R.lt.1; omega

def putE (room : Nat) (l : List Int) : Int := if l.length < room then 0 else 6
def putL (room : Nat) (l : List Int) (y : Int) : List Int := if l.length < room then l ++ [y] else l
theorem putL_len (room : Nat) (l : List Int) (y : Int) (k : Nat) (h : l.length ≤ k) : (putL room l y).length ≤ k + 1 := by
  unfold putL
  split
  · simp; exact h
  · omega
section
variable (w0 : World) (r u room : Nat) (v vu : Value) (l lu : List Int) (w : World)
theorem bputR (y : Int) (h : Hid (B15 w0 w r u room v vu l lu)) (hr : room ≤ 65536) :
    Calls Try.prog 28 #[.pointer (some ⟨r, 0, none⟩), .int .i64 y] w fun e w' => e = .returned (.int .i64 (putE room l)) ∧ ∃ v', Hid (B15 w0 w' r u room v' vu (putL room l y) lu) := by
  unfold putE putL
  by_cases hl : l.length < room
  · rw [if_pos hl, if_pos hl]
    exact (iput r room v l y w (Lib.hid h.out.R) hl hr).mono fun _ _ ⟨he, v', q, s⟩ => ⟨he, v', Lib.hid (h.out.stepR s.out.wr s.out.sub q.out)⟩
  · rw [if_neg hl, if_neg hl]
    exact (iput_full r room v l (.int .i64 y) w (Lib.hid h.out.R) (by omega)).mono fun _ _ ⟨he, q, k⟩ => ⟨he, v, Lib.hid (h.out.all k (fun _ h => h.elim))⟩
theorem bputU (y : Int) (h : Hid (B15 w0 w r u room v vu l lu)) (hr : room ≤ 65536) :
    Calls Try.prog 29 #[.pointer (some ⟨u, 0, none⟩), .int .i64 y] w fun e w' => e = .returned (.int .i64 (putE room lu)) ∧ ∃ v', Hid (B15 w0 w' r u room v v' l (putL room lu y)) := by
  obtain ⟨B, hv⟩ := h.out.U
  unfold putE putL
  by_cases hl : lu.length < room
  · rw [if_pos hl, if_pos hl]
    exact (ringU.put u B room vu (ivs lu) y w hv (by simpa using hl) hr).mono fun _ _ ⟨he, v', k, q, s⟩ => ⟨he, v', Lib.hid (h.out.stepU k s ⟨B, by simpa [ivs] using q⟩)⟩
  · rw [if_neg hl, if_neg hl]
    exact (ringU.put_full u B room vu (ivs lu) (.int .i64 y) w hv (by simp; omega)).mono fun _ _ ⟨he, k⟩ => ⟨he, vu, Lib.hid (h.out.all k (fun _ h => h.elim))⟩
theorem btakeR (x : Int) (h : Hid (B15 w0 w r u room v vu (x :: l) lu)) :
    Calls Try.prog 30 #[.pointer (some ⟨r, 0, none⟩)] w fun e w' => e = .returned (.tuple #[.int .i64 x, .bool true]) ∧ ∃ v', Hid (B15 w0 w' r u room v' vu l lu) :=
  (itake r room v x l w (Lib.hid h.out.R)).mono fun _ _ ⟨he, v', q, s⟩ => ⟨he, v', Lib.hid (h.out.stepR s.out.1 (fun k hk => .inl (s.out.2 k hk)) q.out)⟩
theorem btakeU (x : Int) (h : Hid (B15 w0 w r u room v vu l (x :: lu))) :
    Calls Try.prog 31 #[.pointer (some ⟨u, 0, none⟩)] w fun e w' => e = .returned (.tuple #[.int .i64 x, .bool true]) ∧ ∃ v', Hid (B15 w0 w' r u room v v' l lu) := by
  obtain ⟨B, hv⟩ := h.out.U
  exact (ringU.take u B room vu (.int .i64 x) (ivs lu) w hv).mono fun _ _ ⟨he, v', k, q, s⟩ => ⟨he, v', Lib.hid (h.out.stepU k (fun k hk => .inl (s k hk)) ⟨B, q⟩)⟩
theorem btakeU0 (h : Hid (B15 w0 w r u room v vu l [])) :
    Calls Try.prog 31 #[.pointer (some ⟨u, 0, none⟩)] w fun e w' => e = .returned (.tuple #[.int .i64 0, .bool false]) ∧ w = w' := by
  obtain ⟨B, hv⟩ := h.out.U
  exact ringU.take_none u B room vu w hv
theorem bfirstU (x : Int) (h : Hid (B15 w0 w r u room v vu l (x :: lu))) :
    Calls Try.prog 33 #[.pointer (some ⟨u, 0, none⟩)] w fun e w' => e = .returned (.tuple #[.int .i64 x, .bool true]) ∧ w = w' := by
  obtain ⟨B, hv⟩ := h.out.U
  exact ringU.first u B room vu (.int .i64 x) (ivs lu) w hv
theorem bfirstU0 (h : Hid (B15 w0 w r u room v vu l [])) :
    Calls Try.prog 33 #[.pointer (some ⟨u, 0, none⟩)] w fun e w' => e = .returned (.tuple #[.int .i64 0, .bool false]) ∧ w = w' := by
  obtain ⟨B, hv⟩ := h.out.U
  exact ringU.first_none u B room vu w hv
end
def firstV (l : List Int) : Int := l.headD 0
def firstB (l : List Int) : Bool := !l.isEmpty
theorem bfR (w0 : World) (r u room : Nat) (v vu : Value) (l lu : List Int) (w : World) (h : Hid (B15 w0 w r u room v vu l lu)) :
    Calls Try.prog 32 #[.pointer (some ⟨r, 0, none⟩)] w fun e w' => e = .returned (.tuple #[.int .i64 (firstV l), .bool (firstB l)]) ∧ w = w' := by
  cases l with
  | nil => exact ifirst_none r room v w (Lib.hid h.out.R)
  | cons x l => exact ifirst r room v x l w (Lib.hid h.out.R)
theorem bfU (w0 : World) (r u room : Nat) (v vu : Value) (l lu : List Int) (w : World) (h : Hid (B15 w0 w r u room v vu l lu)) :
    Calls Try.prog 33 #[.pointer (some ⟨u, 0, none⟩)] w fun e w' => e = .returned (.tuple #[.int .i64 (firstV lu), .bool (firstB lu)]) ∧ w = w' := by
  cases lu with
  | nil => exact bfirstU0 w0 r u room v vu l w h
  | cons x lu => exact bfirstU w0 r u room v vu l lu w x h
theorem btR (w0 : World) (r u room : Nat) (v vu : Value) (l lu : List Int) (w : World) (h : Hid (B15 w0 w r u room v vu l lu)) :
    Calls Try.prog 30 #[.pointer (some ⟨r, 0, none⟩)] w fun e w' => e = .returned (.tuple #[.int .i64 (firstV l), .bool (firstB l)]) ∧ ∃ v', Hid (B15 w0 w' r u room v' vu (l.drop 1) lu) := by
  cases l with
  | nil => exact (itake_none r room v w (Lib.hid h.out.R)).mono fun _ _ ⟨he, e2⟩ => ⟨he, v, by rw [← e2]; exact h⟩
  | cons x l => exact btakeR w0 r u room v vu l lu w x h
theorem btU (w0 : World) (r u room : Nat) (v vu : Value) (l lu : List Int) (w : World) (h : Hid (B15 w0 w r u room v vu l lu)) :
    Calls Try.prog 31 #[.pointer (some ⟨u, 0, none⟩)] w fun e w' => e = .returned (.tuple #[.int .i64 (firstV lu), .bool (firstB lu)]) ∧ ∃ v', Hid (B15 w0 w' r u room v v' l (lu.drop 1)) := by
  cases lu with
  | nil => exact (btakeU0 w0 r u room v vu l w h).mono fun _ _ ⟨he, e2⟩ => ⟨he, vu, by rw [← e2]; exact h⟩
  | cons x lu => exact btakeU w0 r u room v vu l lu w x h
theorem RU.form {w : World} {r room : Nat} {v : Value} {l : List Int} (h : RU w r room v l) : ∃ a cap, v = .slice a l.length cap := by
  obtain ⟨B, h⟩ := h
  have := h.form
  rw [List.length_map] at this
  exact this
theorem RU.cell1 {w : World} {r room : Nat} {v : Value} {l : List Int} (h : RU w r room v l) : w.cell? ⟨r, 1, none⟩ = some v := by
  obtain ⟨B, h⟩ := h
  exact h.S.cell 1 rfl
theorem RU.at {w : World} {r room : Nat} {a : Option Addr} {n c : Nat} {l : List Int} (h : RU w r room (.slice a n c) l) (j : Nat) (hj : j < l.length) : ∃ g off, a = some ⟨g, off, none⟩ ∧ w.cell? ⟨g, off + j, none⟩ = some (.int .i64 (l.getD j 0)) := by
  obtain ⟨B, h⟩ := h
  rcases h.q.2 with ⟨_, h2⟩ | ⟨g, off, cap, h1, _, _, _, _, h3, _⟩
  · simp at h2; subst h2; simp at hj
  · simp at h1
    refine ⟨g, off, h1.1, ?_⟩
    rw [h3 j (by simpa using hj), List.getElem?_map, List.getElem?_eq_getElem hj, List.getD_eq_getElem?_getD, List.getElem?_eq_getElem hj]
    rfl
/-- Both rings, and what was told of the first. -/
structure A15 (w0 w : World) (r u room : Nat) (v vu : Value) (l : List Int) (G : Nat) (va : Value) (zs : List Int) : Prop where
  b : B15 w0 w r u room v vu l l
  i : Ints w G va zs
  r1 : r < G
  u1 : u < G
  v1 : ∀ k, sliceAt v k → k < G
  vu1 : ∀ k, sliceAt vu k → k < G
  z : zs.length = l.length
theorem B15.copied {w0 w w' : World} {r u room : Nat} {v vu va : Value} {l : List Int} (h : B15 w0 w r u room v vu l l) (k : Below w.heap.size w w') (hi : Ints w' w.heap.size va l) : A15 w0 w' r u room v vu l w.heap.size va l where
  b := h.all (p := fun _ => False) (Wrote.ofBelow k _) (fun _ h => h.elim)
  i := hi
  r1 := h.R.lt.1
  u1 := h.U.lt.1
  v1 := fun k hk => (h.R.lt.2 k hk).1
  vu1 := fun k hk => (h.U.lt.2 k hk).1
  z := rfl
theorem A15.drew {w0 w : World} {r u room : Nat} {v vu : Value} {l : List Int} {G : Nat} {va : Value} {zs : List Int} (h : A15 w0 w r u room v vu l G va zs) : A15 w0 w.drew r u room v vu l G va zs := { h with b := h.b.drew, i := h.i.drew }
theorem A15.set {w0 w : World} {r u room : Nat} {v vu : Value} {l : List Int} {G g n c : Nat} {zs : List Int} (h : A15 w0 w r u room v vu l G (.slice (some ⟨g, 0, none⟩) n c) zs) (hg : G ≤ g) (j : Nat) (y : Int) : A15 w0 (w.setCell ⟨g, j, none⟩ (.int .i64 y)) r u room v vu l G (.slice (some ⟨g, 0, none⟩) n c) (zs.set j y) :=
  { h with
    b := { h.b with
      bel := Wrote.below h.b.bel (Wrote.set (fun k => k = g) w g j _ rfl) (fun i hi => by have := h.r1; have := h.b.ler; omega)
      R := h.b.R.kept (Wrote.set (fun k => k = g) w g j _ rfl) (by have := h.r1; omega) (fun k hk e => by have := h.v1 k hk; omega)
      U := h.b.U.kept (Wrote.set (fun k => k = g) w g j _ rfl) (by have := h.u1; omega) (fun k hk e => by have := h.vu1 k hk; omega) }
    i := h.i.set j y
    z := by rw [List.length_set]; exact h.z }
theorem alen {w0 : World} {r u room : Nat} {v vu : Value} {l : List Int} {G : Nat} {va : Value} {zs : List Int} (x : WIn (fun w' => A15 w0 w' r u room v vu l G va zs)) :
    Calls Try.prog 35 #[.pointer (some ⟨r, 0, none⟩)] x.val fun e w'' => e = .returned (.int .i64 l.length) ∧ ∃ y : WIn (fun w' => A15 w0 w' r u room v vu l G va zs), w'' = y.val :=
  (ilen r room v l _ x.val (Lib.hid x.property.b.R) rfl).mono fun _ _ ⟨he, e2⟩ => ⟨he, x, e2.symm⟩

set_option maxRecDepth 100000 in
set_option maxHeartbeats 400000 in
theorem ringPlays_walk (m : Int) (a : Option Addr) (len cap : Nat) (z : List Int) (w : World) (hr : IsRow .i64 w a len cap z) :
    Calls Try.prog 8 #[.int .i64 m, .slice a len cap] w fun e w' => e = .returned (.bool true) ∧ Below w.heap.size w w' := by
  by_cases hm : m < 1 ∨ 65536 < m
  · go_enter Try.func8, Try.ntmps8
    go_wp2_with fail
    refine (ringI.new_no m _ hm).mono ?_
    rintro e _ ⟨rfl, rfl⟩
    go_wp2_with fail
    refine (ringU.new_no m _ hm).mono ?_
    rintro e _ ⟨rfl, rfl⟩
    go_wp2_with fail
    refine (works15 _).mono ?_
    rintro e w1 ⟨rfl, q1⟩
    go_wp2_with fail
    go_returns
    exact ⟨rfl, q1⟩
  · obtain ⟨n, rfl⟩ : ∃ n : Nat, m = n := ⟨m.toNat, by omega⟩
    have HR := Lib.hid hr
    clear hr
    go_enter Try.func8, Try.ntmps8
    go_wp2_with fail
    refine (inew n _ (by omega) (by omega)).mono ?_
    rintro e w1 ⟨rfl, q1, s1⟩
    go_wp2_with fail
    refine (ringU.new n _ (by omega) (by omega)).mono ?_
    rintro e w2 ⟨rfl, q2, s2⟩
    have hrl := s1.out.lt.1
    have hw1 := q1.size
    have HB : Hid (B15 w w2 w.heap.size w1.heap.size n (.slice none 0 0) (.slice none 0 0) [] []) := Lib.hid { bel := q1.trans (q2.mono q1.size), R := s1.out.below q2, U := ⟨_, s2⟩, ler := Nat.le_refl _, leu := q1.size, ne := by omega, vr := fun k ⟨_, _, _, e⟩ => (by cases e), vu := fun k ⟨_, _, _, e⟩ => (by cases e) }
    have hn : n ≤ 65536 := by omega
    generalize hu : w1.heap.size = u at HB
    clear s1 s2 q1 q2 hm
    go_wp2_with fail
    go_loopw [7] (fun i wr => ∃ (k : Nat) (v vu : Value) (l : List Int), i = .int .i64 k ∧ k ≤ 200 ∧ l.length ≤ k ∧ Hid (B15 w wr w.heap.size u n v vu l l)) (fun i _ => (200 - intOf i).toNat)
    case atStart => exact ⟨0, _, _, [], rfl, by omega, by simp, HB⟩
    case round =>
      clear HB
      obtain ⟨k, v, vu, l, rfl, hk, hl, HB⟩ := hrel
      by_cases hlt : k < len
      · by_cases hlt2 : k < 200
        · obtain ⟨b2, off, rfl, hb2, hcl⟩ := HR.out.at (j := k) (by omega)
          have hcm := hcl k (by omega)
          generalize z.getD k 0 = y at hcm
          have HM := Lib.hid hcm
          clear hcl hcm
          have hk1 : (0 : Int) ≤ (k : Int) := by omega
          have hk3 : (k : Int) < (len : Int) := by omega
          have hk4 : (k : Int) < 200 := by omega
          have hcw := (HB.out.bel.cell (p := ⟨b2, off + k, none⟩) hb2).trans HM.out
          generalize hq : bits BinOp.and IntKind.i64 y 3 = q
          go_upto_block 2 with fail
          go_cut [7] (fun vi wc => vi = .int .i64 k ∧ ∃ (v vu : Value) (l : List Int), l.length ≤ k + 1 ∧ Hid (B15 w wc w.heap.size u n v vu l l))
          case first =>
            have HD : Hid (B15 w wr.drew w.heap.size u n v vu l l) := Lib.hid HB.out.drew
            have hcc : wr.drew.cell? ⟨b2, off + k, none⟩ = some (.int .i64 y) := hcw
            by_cases hq0 : q = 0
            · subst hq0
              go_wp2_with fail
              refine wp_region_noPanic ?_
              refine wp_region_held_drew (S := (fun w' => w'.cell? ⟨b2, off + k, none⟩ = some (.int .i64 y))) (by kernel_rfl) (hcc) (fun hHeld => ?_)
              refine wpAnyH_takeD (i := 0) (v := ?_) rfl (by kernel_rfl) (by kernel_rfl) (by kernel_rfl) (fun _ _ _ h => h) (Or.inl ⟨by rfl, ?_⟩) hHeld ?_
              rotate_left
              · rintro w hSw
                go_simp
                try with_reducible rfl
              try simp only [Act.put, List.setIfInBounds_toArray, List.set_cons_zero, List.set_cons_succ]
              refine wpAnyH_takeD (i := 1) (v := ?_) rfl (by kernel_rfl) (by kernel_rfl) (by kernel_rfl) (fun _ _ _ h => h) (Or.inl ⟨by rfl, ?_⟩) hHeld ?_
              rotate_left
              · rintro w hSw
                go_simp
                try with_reducible rfl
              try simp only [Act.put, List.setIfInBounds_toArray, List.set_cons_zero, List.set_cons_succ]
              refine wpAnyH_takeD (i := 2) (v := ?_) rfl (by kernel_rfl) (by kernel_rfl) (by kernel_rfl) (fun _ _ _ h => h) (Or.inl ⟨by rfl, ?_⟩) hHeld ?_
              rotate_left
              · rintro w hSw
                go_simp
                try with_reducible rfl
              try simp only [Act.put, List.setIfInBounds_toArray, List.set_cons_zero, List.set_cons_succ]
              refine wpAnyH_takeD (i := 3) (v := ?_) rfl (by kernel_rfl) (by kernel_rfl) (by kernel_rfl) (fun _ _ _ h => h) (Or.inl ⟨by rfl, ?_⟩) hHeld ?_
              rotate_left
              · rintro w hSw
                go_simp
                try with_reducible rfl
              try simp only [Act.put, List.setIfInBounds_toArray, List.set_cons_zero, List.set_cons_succ]
              refine wpAnyH_takeD (i := 4) (v := ?_) rfl (by kernel_rfl) (by kernel_rfl) (by kernel_rfl) (fun _ _ _ h => h) (Or.inl ⟨by rfl, ?_⟩) hHeld ?_
              rotate_left
              · rintro w hSw
                go_simp
                try with_reducible rfl
              try simp only [Act.put, List.setIfInBounds_toArray, List.set_cons_zero, List.set_cons_succ]
              refine wpAnyH_takeD (i := 6) (v := ?_) rfl (by kernel_rfl) (by kernel_rfl) (by kernel_rfl) (fun _ _ _ h => h) (Or.inl ⟨by rfl, ?_⟩) hHeld ?_
              rotate_left
              · rintro w hSw
                go_simp
                try with_reducible rfl
              try simp only [Act.put, List.setIfInBounds_toArray, List.set_cons_zero, List.set_cons_succ]
              refine wpAnyH_takeD (i := 7) (v := ?_) rfl (by kernel_rfl) (by kernel_rfl) (by kernel_rfl) (fun _ _ _ h => h) (Or.inl ⟨by rfl, ?_⟩) hHeld ?_
              rotate_left
              · rintro w hSw
                go_simp
                try with_reducible rfl
              try simp only [Act.put, List.setIfInBounds_toArray, List.set_cons_zero, List.set_cons_succ]
              refine wpAnyH_takeD (i := 8) (v := ?_) rfl (by kernel_rfl) (by kernel_rfl) (by kernel_rfl) (fun _ _ _ h => h) (Or.inl ⟨by rfl, ?_⟩) hHeld ?_
              rotate_left
              · rintro w hSw
                go_simp
                try with_reducible rfl
              try simp only [Act.put, List.setIfInBounds_toArray, List.set_cons_zero, List.set_cons_succ]
              refine wpAnyH_takeD (i := 9) (v := ?_) rfl (by kernel_rfl) (by kernel_rfl) (by kernel_rfl) (fun _ _ _ h => h) (Or.inl ⟨by rfl, ?_⟩) hHeld ?_
              rotate_left
              · rintro w hSw
                go_simp
                try with_reducible rfl
              try simp only [Act.put, List.setIfInBounds_toArray, List.set_cons_zero, List.set_cons_succ]
              refine wpAnyH_takeD (i := 10) (v := ?_) rfl (by kernel_rfl) (by kernel_rfl) (by kernel_rfl) (fun _ _ _ h => h) (Or.inl ⟨by rfl, ?_⟩) hHeld ?_
              rotate_left
              · rintro w hSw
                go_simp
                try with_reducible rfl
              try simp only [Act.put, List.setIfInBounds_toArray, List.set_cons_zero, List.set_cons_succ]
              refine wpAnyH_one (i := 5) rfl (by kernel_rfl) (fun K hK => ?_)
              go_simp
              refine (bputR w w.heap.size u n v vu l l _ y HD hn).mono ?_
              rintro e w4 ⟨rfl, v4, h4⟩
              have hc4 := (h4.out.bel.cell (p := ⟨b2, off + k, none⟩) hb2).trans HM.out
              refine hK.out _ _ (hc4) (fun hHeld => ?_)
              clear hK K
              try simp only [Act.put, List.setIfInBounds_toArray, List.set_cons_zero, List.set_cons_succ]
              refine wpAnyH_one (i := 11) rfl (by kernel_rfl) (fun K hK => ?_)
              go_simp
              refine (bputU w w.heap.size u n v4 vu _ l w4 y h4 hn).mono ?_
              rintro e w5 ⟨rfl, v5, h5⟩
              have hc5 := (h5.out.bel.cell (p := ⟨b2, off + k, none⟩) hb2).trans HM.out
              refine hK.out _ _ (hc5) (fun hHeld => ?_)
              clear hK K
              try simp only [Act.put, List.setIfInBounds_toArray, List.set_cons_zero, List.set_cons_succ]
              have hne : Nonempty (WIn (fun w' => B15 w w' w.heap.size u n v4 v5 (putL n l y) (putL n l y))) := ⟨⟨w5, h5.out⟩⟩
              refine wpAnyH_rest (fun w' => B15 w w' w.heap.size u n v4 v5 (putL n l y) (putL n l y)) 12 _ (fun w' h => (h.bel.cell (p := ⟨b2, off + k, none⟩) hb2).trans HM.out) h5.out (by simp only [List.drop_succ_cons, List.drop_zero]) (by kernel_rfl) (by kernel_rfl) ?_
              repeat (go_big_quiet_step (fail))
              refine wpQuiet_nil ?_
              intro w6 h6
              refine NoPanic.normal ?_
              have HB6 := Lib.hid h6
              clear h6 hHeld
              go_wp2_with fail
              go_meet
              case rel => exact ⟨rfl, _, _, _, putL_len n l y k hl, HB6⟩
            · by_cases hq1 : q = 1
              · subst hq1
                go_wp2_with fail
                refine wp_region_noPanic ?_
                refine wp_region_held_drew (S := (fun w' => w'.cell? ⟨b2, off + k, none⟩ = some (.int .i64 y))) (by kernel_rfl) (hcc) (fun hHeld => ?_)
                refine wpAnyH_takeD (i := 0) (v := ?_) rfl (by kernel_rfl) (by kernel_rfl) (by kernel_rfl) (fun _ _ _ h => h) (Or.inl ⟨by rfl, ?_⟩) hHeld ?_
                rotate_left
                · rintro w hSw
                  go_simp
                  try with_reducible rfl
                try simp only [Act.put, List.setIfInBounds_toArray, List.set_cons_zero, List.set_cons_succ]
                refine wpAnyH_takeD (i := 1) (v := ?_) rfl (by kernel_rfl) (by kernel_rfl) (by kernel_rfl) (fun _ _ _ h => h) (Or.inl ⟨by rfl, ?_⟩) hHeld ?_
                rotate_left
                · rintro w hSw
                  go_simp
                  try with_reducible rfl
                try simp only [Act.put, List.setIfInBounds_toArray, List.set_cons_zero, List.set_cons_succ]
                refine wpAnyH_takeD (i := 2) (v := ?_) rfl (by kernel_rfl) (by kernel_rfl) (by kernel_rfl) (fun _ _ _ h => h) (Or.inl ⟨by rfl, ?_⟩) hHeld ?_
                rotate_left
                · rintro w hSw
                  go_simp
                  try with_reducible rfl
                try simp only [Act.put, List.setIfInBounds_toArray, List.set_cons_zero, List.set_cons_succ]
                refine wpAnyH_takeD (i := 3) (v := ?_) rfl (by kernel_rfl) (by kernel_rfl) (by kernel_rfl) (fun _ _ _ h => h) (Or.inl ⟨by rfl, ?_⟩) hHeld ?_
                rotate_left
                · rintro w hSw
                  go_simp
                  try with_reducible rfl
                try simp only [Act.put, List.setIfInBounds_toArray, List.set_cons_zero, List.set_cons_succ]
                refine wpAnyH_takeD (i := 4) (v := ?_) rfl (by kernel_rfl) (by kernel_rfl) (by kernel_rfl) (fun _ _ _ h => h) (Or.inl ⟨by rfl, ?_⟩) hHeld ?_
                rotate_left
                · rintro w hSw
                  go_simp
                  try with_reducible rfl
                try simp only [Act.put, List.setIfInBounds_toArray, List.set_cons_zero, List.set_cons_succ]
                refine wpAnyH_takeD (i := 6) (v := ?_) rfl (by kernel_rfl) (by kernel_rfl) (by kernel_rfl) (fun _ _ _ h => h) (Or.inl ⟨by rfl, ?_⟩) hHeld ?_
                rotate_left
                · rintro w hSw
                  go_simp
                  try with_reducible rfl
                try simp only [Act.put, List.setIfInBounds_toArray, List.set_cons_zero, List.set_cons_succ]
                refine wpAnyH_takeD (i := 7) (v := ?_) rfl (by kernel_rfl) (by kernel_rfl) (by kernel_rfl) (fun _ _ _ h => h) (Or.inl ⟨by rfl, ?_⟩) hHeld ?_
                rotate_left
                · rintro w hSw
                  go_simp
                  try with_reducible rfl
                try simp only [Act.put, List.setIfInBounds_toArray, List.set_cons_zero, List.set_cons_succ]
                refine wpAnyH_takeD (i := 8) (v := ?_) rfl (by kernel_rfl) (by kernel_rfl) (by kernel_rfl) (fun _ _ _ h => h) (Or.inl ⟨by rfl, ?_⟩) hHeld ?_
                rotate_left
                · rintro w hSw
                  go_simp
                  try with_reducible rfl
                try simp only [Act.put, List.setIfInBounds_toArray, List.set_cons_zero, List.set_cons_succ]
                refine wpAnyH_takeD (i := 9) (v := ?_) rfl (by kernel_rfl) (by kernel_rfl) (by kernel_rfl) (fun _ _ _ h => h) (Or.inl ⟨by rfl, ?_⟩) hHeld ?_
                rotate_left
                · rintro w hSw
                  go_simp
                  try with_reducible rfl
                try simp only [Act.put, List.setIfInBounds_toArray, List.set_cons_zero, List.set_cons_succ]
                refine wpAnyH_takeD (i := 10) (v := ?_) rfl (by kernel_rfl) (by kernel_rfl) (by kernel_rfl) (fun _ _ _ h => h) (Or.inl ⟨by rfl, ?_⟩) hHeld ?_
                rotate_left
                · rintro w hSw
                  go_simp
                  try with_reducible rfl
                try simp only [Act.put, List.setIfInBounds_toArray, List.set_cons_zero, List.set_cons_succ]
                refine wpAnyH_one (i := 5) rfl (by kernel_rfl) (fun K hK => ?_)
                go_simp
                refine (bputR w w.heap.size u n v vu l l _ y HD hn).mono ?_
                rintro e w4 ⟨rfl, v4, h4⟩
                have hc4 := (h4.out.bel.cell (p := ⟨b2, off + k, none⟩) hb2).trans HM.out
                refine hK.out _ _ (hc4) (fun hHeld => ?_)
                clear hK K
                try simp only [Act.put, List.setIfInBounds_toArray, List.set_cons_zero, List.set_cons_succ]
                refine wpAnyH_one (i := 11) rfl (by kernel_rfl) (fun K hK => ?_)
                go_simp
                refine (bputU w w.heap.size u n v4 vu _ l w4 y h4 hn).mono ?_
                rintro e w5 ⟨rfl, v5, h5⟩
                have hc5 := (h5.out.bel.cell (p := ⟨b2, off + k, none⟩) hb2).trans HM.out
                refine hK.out _ _ (hc5) (fun hHeld => ?_)
                clear hK K
                try simp only [Act.put, List.setIfInBounds_toArray, List.set_cons_zero, List.set_cons_succ]
                have hne : Nonempty (WIn (fun w' => B15 w w' w.heap.size u n v4 v5 (putL n l y) (putL n l y))) := ⟨⟨w5, h5.out⟩⟩
                refine wpAnyH_rest (fun w' => B15 w w' w.heap.size u n v4 v5 (putL n l y) (putL n l y)) 12 _ (fun w' h => (h.bel.cell (p := ⟨b2, off + k, none⟩) hb2).trans HM.out) h5.out (by simp only [List.drop_succ_cons, List.drop_zero]) (by kernel_rfl) (by kernel_rfl) ?_
                repeat (go_big_quiet_step (fail))
                refine wpQuiet_nil ?_
                intro w6 h6
                refine NoPanic.normal ?_
                have HB6 := Lib.hid h6
                clear h6 hHeld
                go_wp2_with fail
                go_meet
                case rel => exact ⟨rfl, _, _, _, putL_len n l y k hl, HB6⟩
              · by_cases hq2 : q = 2
                · subst hq2
                  go_wp2_with fail
                  refine (btR w w.heap.size u n v vu l l _ HB).mono ?_
                  rintro e w4 ⟨rfl, v4, h4⟩
                  go_wp2_with fail
                  refine (btU w w.heap.size u n v4 vu _ l _ h4).mono ?_
                  rintro e w5 ⟨rfl, v5, h5⟩
                  go_wp2_with fail
                  go_meet
                  case rel => exact ⟨rfl, _, _, _, by rw [List.length_drop]; omega, h5⟩
                · go_wp2_with fail
                  go_meet
                  case rel => exact ⟨rfl, _, _, _, by omega, HB⟩
          case rest =>
            clear HB
            obtain ⟨rfl, v, vu, l, hl2, HB⟩ := hcut
            go_wp2_with fail
            refine (bfR w w.heap.size u n v vu l l _ HB).mono ?_
            rintro e _ ⟨rfl, rfl⟩
            go_wp2_with fail
            refine (bfU w w.heap.size u n v vu l l _ HB).mono ?_
            rintro e _ ⟨rfl, rfl⟩
            go_wp2_with fail
            refine (iall w.heap.size n v l _ (Lib.hid HB.out.R) (by omega)).mono ?_
            rintro e w4 ⟨aa, ca, rfl, hA, qA⟩
            obtain ⟨au, cu, hvu⟩ := HB.out.U.form
            subst hvu
            have HA : Hid (A15 w w4 w.heap.size u n v (.slice au l.length cu) l wc.heap.size (.slice aa l.length ca) l) := Lib.hid (HB.out.copied qA hA.out)
            generalize wc.heap.size = G at HA
            clear HB hA qA
            go_upto_region 20 with fail
            have hI1 : ∀ x : WIn (fun w' => A15 w w' w.heap.size u n v (.slice au l.length cu) l G (.slice aa l.length ca) l), x.val.cell? ⟨u, 1, none⟩ = some (.slice au l.length cu) := fun x => x.property.b.U.cell1
            have hne : Nonempty (WIn (fun w' => A15 w w' w.heap.size u n v (.slice au l.length cu) l G (.slice aa l.length ca) l)) := ⟨⟨w4, HA.out⟩⟩
            refine wp_region_inv (fun w' => A15 w w' w.heap.size u n v (.slice au l.length cu) l G (.slice aa l.length ca) l) (by kernel_rfl) (by kernel_rfl) HA.out.drew ?_
            repeat (go_big_quiet_step ((go_at_call 35; exact alen _)))
            refine wpQuiet_nil ?_
            intro w6 h6
            have HA6 := Lib.hid h6
            clear h6 hI1 HA
            go_wp2_with fail
            generalize hL : l.length = L at HA6 hl2
            have HL := Lib.hid hL
            clear hL hne
            go_loopw [17] (fun i wr => ∃ (j : Nat) (zs : List Int), i = .int .i64 j ∧ j ≤ L ∧ Hid (A15 w wr w.heap.size u n v (.slice au L cu) l G (.slice aa L ca) zs) ∧ Hid (∀ i, j ≤ i → zs.getD i 0 = l.getD i 0)) (fun i _ => (L - intOf i).toNat)
            case atStart => exact ⟨0, l, rfl, by omega, HA6, Lib.hid (fun _ _ => rfl)⟩
            case round =>
              obtain ⟨j, zs, rfl, hj, HA, HT⟩ := hrel
              clear HA6
              by_cases hjl : j < L
              · obtain ⟨gu, ou, rfl, hcu⟩ := HA.out.b.U.at j (by rw [HL.out]; exact hjl)
                obtain ⟨g, rfl, hg1, hg2, hca⟩ := HA.out.i.formW (by rw [HA.out.z, HL.out]; omega)
                have hcA := HA.out.i.cell j (by rw [HA.out.z, HL.out]; exact hjl)
                rw [HT.out j (Nat.le_refl _)] at hcA
                have hfA := HA.out.i.free j
                have hc1 := HA.out.b.U.cell1
                have hj5 : (j : Int) < L := by omega
                generalize l.getD j 0 = x at hcA hcu
                go_upto_region 25 with fail
                go_region
                go_wp2_with fail
                refine ⟨⟨j + 1, zs.set j (-9), by go_num, by omega, Lib.hid (HA.out.drew.set hg1 j (-9)), Lib.hid (fun i hi => ?_)⟩, by simp [intOf]; omega⟩
                rw [← HT.out i (by omega), List.getD_eq_getElem?_getD, List.getElem?_set_ne (by omega), List.getD_eq_getElem?_getD]
              · go_wp2_with fail
                exact ⟨⟨k + 1, _, _, l, by go_num, by omega, by rw [HL.out]; omega, Lib.hid HA.out.b⟩, by simp [intOf]; omega⟩
        · go_wp2_with fail
          refine (works15 _).mono ?_
          rintro e w9 ⟨rfl, q9⟩
          go_wp2_with fail
          go_returns
          exact ⟨rfl, bthen HB.out.bel q9⟩
      · go_wp2_with fail
        refine (works15 _).mono ?_
        rintro e w9 ⟨rfl, q9⟩
        go_wp2_with fail
        go_returns
        exact ⟨rfl, bthen HB.out.bel q9⟩

end Go.Proofs.Ytlcjgphibodjkaa
