/-
  FidPlays: the walk.
-/
import Derived.Test.YtlcjgphibodjkaaFidRef
import Derived.Test.YtlcjgphibodjkaaFidWorks
import Derived.Test.YtlcjgphibodjkaaOpenS
import Derived.Deep.CutBlock
namespace Go.Proofs.Ytlcjgphibodjkaa
open Go.RowKit Go.WideShapes Go.Deep

theorem Ints.slice {w : World} {B : Nat} {v : Value} {xs : List Int} (h : Ints w B v xs) : ∃ a c, v = .slice a xs.length c := by
  rcases h.shape with ⟨h1, h2⟩ | ⟨g, cap, h1, _⟩
  · exact ⟨none, 0, by rw [h1, h2]; rfl⟩
  · exact ⟨_, cap, h1⟩
/-- Both pools hold the same. -/
structure Same12 (us : List Bool) (L : List Int) : Prop where
  u : us = pl (fun j => decide ((j : Int) ∈ L))
  nd : L.Nodup
  r : ∀ x ∈ L, 0 ≤ x ∧ x < 256
  c : us.countP id = L.length
theorem Same12.nil : Same12 (pl fun _ => false) [] := ⟨pl_congr (fun i _ => by simp), List.nodup_nil, fun x h => (by cases h), by decide +kernel⟩
theorem Same12.len {us : List Bool} {L : List Int} (h : Same12 us L) : L.length ≤ 256 := by
  have h1 := List.countP_le_length (p := id) (l := us)
  rw [h.c, h.u, pl_length] at h1
  exact h1
theorem Same12.get {us : List Bool} {L : List Int} (h : Same12 us L) {n : Nat} (hn : n < 256) : us.getD n false = decide ((n : Int) ∈ L) := by
  rw [h.u, pl_get _ hn]
theorem countP_set_true {us : List Bool} {n : Nat} (hn : n < us.length) (h0 : us.getD n false = false) : (us.set n true).countP id = us.countP id + 1 := by
  rw [List.countP_set hn]
  rw [List.getD_eq_getElem?_getD, List.getElem?_eq_getElem hn] at h0
  have h0' : us[n] = false := h0
  simp [h0']
theorem countP_set_false {us : List Bool} {n : Nat} (hn : n < us.length) (h0 : us.getD n false = true) : (us.set n false).countP id + 1 = us.countP id := by
  rw [List.countP_set hn]
  rw [List.getD_eq_getElem?_getD, List.getElem?_eq_getElem hn] at h0
  have h0' : us[n] = true := h0
  have hp : 0 < us.countP id := List.countP_pos_iff.2 ⟨us[n], List.getElem_mem hn, h0'⟩
  simp [h0']
  omega
theorem Same12.take {us : List Bool} {L : List Int} (h : Same12 us L) {n : Nat} (hn : n < 256) (hm : (n : Int) ∉ L) : Same12 (us.set n true) (L ++ [(n : Int)]) := by
  refine ⟨?_, ?_, ?_, ?_⟩
  · rw [h.u, pl_set]
    refine pl_congr fun i _ => ?_
    by_cases e : i = n
    · subst e; simp
    · rw [if_neg e]
      refine decide_eq_decide.2 ⟨fun h => by simp [h], fun h => ?_⟩
      rcases List.mem_append.1 h with h | h
      · exact h
      · have : (i : Int) = n := by simpa using h
        omega
  · rw [List.nodup_append]
    exact ⟨h.nd, by simp, fun a ha b hb e => by
      have e2 : b = (n : Int) := by simpa using hb
      rw [e2] at e
      rw [e] at ha
      exact hm ha⟩
  · intro x hx
    rcases List.mem_append.1 hx with hx | hx
    · exact h.r x hx
    · obtain rfl : x = (n : Int) := by simpa using hx
      omega
  · rw [countP_set_true (by rw [h.u, pl_length]; exact hn) (by rw [h.get hn]; exact decide_eq_false hm), h.c, List.length_append]
    rfl
theorem Same12.free {us : List Bool} {L : List Int} (h : Same12 us L) {i n : Nat} (hi : i < L.length) (hn : L.getD i 0 = n) : Same12 (us.set n false) (L.take i ++ L.drop (i + 1)) ∧ n < 256 ∧ us.getD n false = true := by
  have hg : L[i] = (n : Int) := by
    rw [List.getD_eq_getElem?_getD, List.getElem?_eq_getElem hi] at hn
    exact hn
  have hmem : (n : Int) ∈ L := by rw [← hg]; exact List.getElem_mem hi
  have hn2 : n < 256 := by have := h.r _ hmem; omega
  have hsplit : L = L.take i ++ L[i] :: L.drop (i + 1) := by
    rw [← List.drop_eq_getElem_cons hi, List.take_append_drop]
  have hnd := h.nd
  rw [hsplit, hg, List.nodup_append, List.nodup_cons] at hnd
  obtain ⟨n1, ⟨n2, n3⟩, n4⟩ := hnd
  have hm : ∀ x, x ∈ L.take i ++ L.drop (i + 1) ↔ x ∈ L ∧ x ≠ (n : Int) := by
    intro x
    constructor
    · intro hx
      rcases List.mem_append.1 hx with hx | hx
      · exact ⟨List.mem_of_mem_take hx, fun e => n4 x hx n (by simp) e⟩
      · exact ⟨List.mem_of_mem_drop hx, fun e => n2 (by rw [← e]; exact hx)⟩
    · rintro ⟨hx, hne⟩
      rw [hsplit, hg] at hx
      rcases List.mem_append.1 hx with hx | hx
      · exact List.mem_append.2 (.inl hx)
      · rcases List.mem_cons.1 hx with hx | hx
        · exact absurd hx hne
        · exact List.mem_append.2 (.inr hx)
  have hget : us.getD n false = true := by rw [h.get hn2]; exact decide_eq_true hmem
  refine ⟨⟨?_, ?_, ?_, ?_⟩, hn2, hget⟩
  · rw [h.u, pl_set]
    refine pl_congr fun j _ => ?_
    by_cases e : j = n
    · subst e
      rw [if_pos rfl]
      exact (decide_eq_false (fun h => ((hm _).1 h).2 rfl)).symm
    · rw [if_neg e]
      exact decide_eq_decide.2 ⟨fun h => (hm _).2 ⟨h, by omega⟩, fun h => ((hm _).1 h).1⟩
  · rw [List.nodup_append]
    exact ⟨n1, n3, fun a ha b hb => n4 a ha b (by simp [hb])⟩
  · intro x hx
    exact h.r x ((hm x).1 hx).1
  · have hc := countP_set_false (by rw [h.u, pl_length]; exact hn2) hget
    rw [h.c] at hc
    rw [List.length_append, List.length_take, List.length_drop]
    omega

/-- Both pools, and the ids that were given. -/
structure P12 (w0 w : World) (b r B : Nat) (v vg : Value) (us : List Bool) (L G : List Int) (n : Nat) : Prop where
  p : IsPool w b us n
  R : RP w r B v L n
  g : Ints w B vg G
  s : Same12 us L
  bel : Below w0.heap.size w0 w
  le : w0.heap.size ≤ b
  ne : b < r
  ap : ∀ k, v.ownBlock = some k → vg.ownBlock ≠ some k
theorem P12.drew {w0 w : World} {b r B : Nat} {v vg : Value} {us : List Bool} {L G : List Int} {n : Nat} (h : P12 w0 w b r B v vg us L G n) : P12 w0 w.drew b r B v vg us L G n :=
  { h with p := h.p, R := ⟨h.R.S, h.R.i.drew, h.R.lt, h.R.hB⟩, g := h.g.drew, bel := h.bel.drew }
theorem RP.kept {w w' : World} {b B : Nat} {v : Value} {L : List Int} {n : Int} {p : Nat → Prop} (h : RP w b B v L n) (k : Wrote p w w') (hb : ¬ p b) (hv : ∀ j, v.ownBlock = some j → ¬ p j) : RP w' b B v L n :=
  ⟨h.S.kept k hb, ⟨h.i.1, by
    rcases h.i.2 with h0 | ⟨g, cap, cur, e, h1, h2, h3⟩
    · exact .inl h0
    · exact .inr ⟨g, cap, cur, e, h1, (k.block g (lt_of_block h2) (hv g (by rw [e]; rfl))).trans h2, h3⟩⟩, h.lt, Nat.le_trans h.hB k.size⟩
theorem Ints.keptW {w w' : World} {B : Nat} {v : Value} {xs : List Int} {p : Nat → Prop} (h : Ints w B v xs) (k : Wrote p w w') (hv : ∀ j, v.ownBlock = some j → ¬ p j) : Ints w' B v xs :=
  ⟨h.1, by
    rcases h.2 with h0 | ⟨g, cap, cur, e, h1, h2, h3⟩
    · exact .inl h0
    · exact .inr ⟨g, cap, cur, e, h1, (k.block g (lt_of_block h2) (hv g (by rw [e]; rfl))).trans h2, h3⟩⟩
/-- The program's pool was written. -/
theorem P12.stepP {w0 w w' : World} {b r B : Nat} {v vg : Value} {us us' : List Bool} {L G : List Int} {n n' : Nat} (h : P12 w0 w b r B v vg us L G n) (hg : w.grownBy w' (some b)) (hp : IsPool w' b us' n') :
    IsPool w' b us' n' ∧ RP w' r B v L n ∧ Ints w' B vg G ∧ Below w0.heap.size w0 w' := by
  have k : Wrote (fun k => k = b) w w' := Wrote.of hg _ rfl
  have hlt := h.R.lt
  have hne := h.ne
  exact ⟨hp, h.R.kept k (by omega) (fun j hj e => by have := (h.R.i.lt j hj).1; omega), h.g.keptW k (fun j hj e => by have := (h.g.lt j hj).1; omega), Wrote.below h.bel k (fun i hi => by have := h.le; omega)⟩

theorem bfree2 (w0 w w1 : World) (b r B : Nat) (v vg : Value) (us : List Bool) (L G : List Int) (n : Nat) (id : Int) (h : P12 w0 w b r B v vg us L G n) (hg : w.grownBy w1 (some b)) (hp : IsPool w1 b (freeU us id) n) :
    Calls Try.prog 20 #[.pointer (some ⟨r, 0, none⟩), .int .i64 id] w1 fun e w2 => e = .returned (.int .i64 (freeE us id)) ∧ ∃ v' L', Hid (P12 w0 w2 b r B v' vg (freeU us id) L' G n) := by
  obtain ⟨h1, h2, h3, h4⟩ := h.stepP hg hp
  have hl := h.s.len
  by_cases ha : id < 0 ∨ 256 ≤ id
  · have e1 : freeE us id = 2 := by unfold freeE; rw [if_pos ha]
    have e2 : freeU us id = us := by unfold freeU; rw [if_pos ha]
    rw [e1, e2]
    rw [e2] at h1
    refine (rfree_arg r id w1 ha).mono ?_
    rintro e _ ⟨rfl, rfl⟩
    exact ⟨rfl, v, L, Lib.hid { h with p := h1, R := h2, g := h3, bel := h4 }⟩
  · obtain ⟨m, rfl⟩ : ∃ m : Nat, id = m := ⟨id.toNat, by omega⟩
    have hm : m < 256 := by omega
    rcases place_rng L (m : Int) with ⟨k, hk1, hk2, hk3⟩ | ⟨hk1, hk2⟩
    · obtain ⟨f1, f2, f3⟩ := h.s.free hk1 hk3
      have e1 : freeE us m = 0 := by unfold freeE; rw [if_neg ha, Int.toNat_natCast, f3]; rfl
      have e2 : freeU us m = us.set m false := by unfold freeU; rw [if_neg ha, Int.toNat_natCast]
      rw [e1, e2]
      rw [e2] at h1
      refine (rfree r B v L n m k w1 h2 (by omega) (by omega) (by omega) hk1 hk2).mono ?_
      rintro e w2 ⟨rfl, v', R', W, F⟩
      refine ⟨rfl, v', _, Lib.hid { p := ?_, R := R'.out, g := h3.keptW W (fun j hj e => ?_), s := f1, bel := Wrote.below h4 W (fun i hi => ?_), le := h.le, ne := h.ne, ap := fun k hk e => ?_ }⟩
      · exact ⟨h1.1, (W.block b h1.lt (fun e => by have := h.ne; omega)).trans h1.2⟩
      · have := (h3.lt j hj).1
        have := h2.lt
        omega
      · have := h.le
        have := h.ne
        omega
      · have := F k hk
        have := (h3.lt k e).2
        omega
    · have hget : us.getD m false = false := by rw [h.s.get hm]; exact decide_eq_false hk2
      have e1 : freeE us m = 5 := by unfold freeE; rw [if_neg ha, Int.toNat_natCast, hget]; rfl
      have e2 : freeU us m = us := by unfold freeU; rw [if_neg ha, Int.toNat_natCast]; exact set_same us m false hget
      rw [e1, e2]
      rw [e2] at h1
      refine (rfree_none r B v L n m w1 h2 (by omega) (by omega) (by omega) hk1).mono ?_
      rintro e _ ⟨rfl, rfl⟩
      exact ⟨rfl, v, L, Lib.hid { h with p := h1, R := h2, g := h3, bel := h4 }⟩
theorem btake2 (w0 w w1 : World) (b r B : Nat) (v vg : Value) (us : List Bool) (L G : List Int) (n : Nat) (hn : n < 256) (h : P12 w0 w b r B v vg us L G n) (hg : w.grownBy w1 (some b)) (hp : IsPool w1 b (us.set n true) (takeN us n)) :
    Calls Try.prog 22 #[.pointer (some ⟨r, 0, none⟩)] w1 fun e w2 => e = .returned (.tuple #[.int .i64 (takeA us n), .int .i64 (takeE us n)]) ∧ (∃ v' L', Hid (P12 w0 w2 b r B v' vg (us.set n true) L' G (takeN us n)) ∧ ∀ j, v'.ownBlock = some j → v.ownBlock = some j ∨ w1.heap.size ≤ j) ∧ Wrote (fun k => k = r ∨ v.ownBlock = some k) w1 w2 := by
  obtain ⟨h1, h2, h3, h4⟩ := h.stepP hg hp
  have hl := h.s.len
  rcases place_rng L (n : Int) with ⟨k, hk1, hk2, hk3⟩ | ⟨hk1, hk2⟩
  · have hmem : (n : Int) ∈ L := by
      rw [← hk3, List.getD_eq_getElem?_getD, List.getElem?_eq_getElem hk1]
      exact List.getElem_mem hk1
    have hget : us.getD n false = true := by rw [h.s.get hn]; exact decide_eq_true hmem
    have e1 : takeA us n = 0 := by unfold takeA; rw [hget]; rfl
    have e2 : takeE us n = 18 := by unfold takeE; rw [hget]; rfl
    have e3 : takeN us n = n := by unfold takeN; rw [hget]; rfl
    have e4 : us.set n true = us := set_same us n true hget
    rw [e1, e2, e3, e4]
    rw [e3, e4] at h1
    refine (rtake_busy r B v L n w1 h2 (by omega) (by omega)).mono ?_
    rintro e _ ⟨rfl, rfl⟩
    exact ⟨rfl, ⟨v, L, Lib.hid { h with p := h1, R := h2, g := h3, bel := h4 }, fun j hj => .inl hj⟩, Wrote.refl _ _⟩
  · have hget : us.getD n false = false := by rw [h.s.get hn]; exact decide_eq_false hk2
    have e1 : takeA us n = n := by unfold takeA; rw [hget]; rfl
    have e2 : takeE us n = 0 := by unfold takeE; rw [hget]; rfl
    have e3 : takeN us n = (n + 1) % 256 := by unfold takeN; rw [hget]; rfl
    rw [e1, e2, e3]
    rw [e3] at h1
    refine (rtake r B v L n w1 h2 (by omega) (by omega) (by omega)).mono ?_
    rintro e w2 ⟨rfl, v', R', W, F⟩
    have hnb : ∀ j, j = r ∨ v.ownBlock = some j → j ≠ b ∧ w0.heap.size ≤ j := fun j hj => by
      rcases hj with rfl | hj
      · have := h.ne; have := h.le; omega
      · have := (h2.i.lt j hj).1; have := h2.lt; have := h.ne; have := h.le; omega
    refine ⟨rfl, ⟨v', _, Lib.hid { p := ?_, R := ?_, g := h3.keptW W (fun j hj e => ?_), s := h.s.take hn hk2, bel := Wrote.below h4 W (fun i hi => (hnb i hi).2), le := h.le, ne := h.ne, ap := fun k hk e => ?_ }, F⟩, W⟩
    · exact ⟨h1.1, (W.block b h1.lt (fun e => (hnb b e).1 rfl)).trans h1.2⟩
    · have := R'.out
      rw [show (((n + 1) % 256 : Nat) : Int) = ((n : Int) + 1) % 256 by omega]
      exact this
    · rcases e with rfl | e
      · have := (h3.lt _ hj).1; have := h2.lt; omega
      · exact h.ap j e hj
    · rcases F k hk with e2 | e2
      · exact h.ap k e2 e
      · have := (h3.lt k e).2; omega
/-- One id more was given. -/
theorem P12.push {w0 w w' : World} {b r B : Nat} {v vg vg' : Value} {us : List Bool} {L G G' : List Int} {n : Nat} (h : P12 w0 w b r B v vg us L G n) (hi : Ints w' B vg' G') (hg : w.grownBy w' vg.ownBlock) (hat : ∀ k, vg'.ownBlock = some k → vg.ownBlock = some k ∨ w.heap.size ≤ k) : P12 w0 w' b r B v vg' us L G' n := by
  have k : Wrote (fun k => vg.ownBlock = some k) w w' := ⟨hg.os, hg.tape, hg.output, hg.size, fun k hk hp => hg.block k hk (fun e => hp e.symm)⟩
  have hB : ∀ j, vg.ownBlock = some j → r < j := fun j hj => by have := (h.g.lt j hj).1; have := h.R.lt; omega
  exact { h with
    p := ⟨h.p.1, (k.block b h.p.lt (fun e => by have := hB b e; have := h.ne; omega)).trans h.p.2⟩
    R := h.R.kept k (fun e => by have := hB r e; omega) (fun j hj e => h.ap j hj e)
    g := hi
    bel := Wrote.below h.bel k (fun i hi => by have := hB i hi; have := h.ne; have := h.le; omega)
    ap := fun j hj e => by
      rcases hat j e with e2 | e2
      · exact h.ap j hj e2
      · have := (h.R.i.lt j hj).2; omega }
theorem P12.alloc {w0 w : World} {b r B : Nat} {v vg : Value} {us : List Bool} {L G : List Int} {n : Nat} (h : P12 w0 w b r B v vg us L G n) (o : Obj) : P12 w0 (w.alloc o) b r B v vg us L G n :=
  { h with
    p := h.p.alloc o
    R := h.R.kept (p := fun _ => False) (Wrote.alloc _ w o) (fun h => h) (fun _ _ h => h)
    g := h.g.keptW (p := fun _ => False) (Wrote.alloc _ w o) (fun _ _ h => h)
    bel := h.bel.alloc h.bel.size o }

theorem fused2 {w0 : World} {b r B : Nat} {v vg : Value} {us : List Bool} {L G : List Int} {n : Nat} (x : WIn (fun w' => P12 w0 w' b r B v vg us L G n)) :
    Calls Try.prog 23 #[.pointer (some ⟨b, 0, none⟩)] x.val fun e w'' => e = .returned (.int .i64 L.length) ∧ ∃ y : WIn (fun w' => P12 w0 w' b r B v vg us L G n), w'' = y.val :=
  (fused b us n x.val x.property.p).mono fun _ _ ⟨he, e2⟩ => ⟨by rw [he, x.property.s.c], x, e2.symm⟩

def IsActs (w : World) (a : Option Addr) (len : Nat) : Prop := ∀ i, i < len → ∃ b off x y, a = some ⟨b, off, none⟩ ∧ b < w.heap.size ∧ w.cell? ⟨b, off + i * 2, none⟩ = some (.int .i64 x) ∧ w.cell? ⟨b, off + i * 2 + 1, none⟩ = some (.int .i64 y) ∧ (-9223372036854775808 ≤ y ∧ y ≤ 9223372036854775807)

set_option maxRecDepth 100000 in
set_option maxHeartbeats 1600000 in
theorem fidPlays_walk (a : Option Addr) (len cap : Nat) (w : World) (hr : IsActs w a len) :
    Calls Try.prog 4 #[.slice a len cap] w fun e w' => e = .returned (.bool true) ∧ Below w.heap.size w w' := by
  have HR := Lib.hid hr
  clear hr
  go_enter Try.func4, Try.ntmps4
  go_wp2_with fail
  refine (fnew _).mono ?_
  rintro e w1 ⟨rfl, q1, p1⟩
  have hs1 : w.heap.size < w1.heap.size := p1.lt
  have HP : Hid (P12 w (w1.alloc (.cells #[.slice none 0 0, .int .i64 0] TRP)) w.heap.size w1.heap.size (w1.heap.size + 1) (.slice none 0 0) (.slice none 0 0) (pl fun _ => false) [] [] 0) := Lib.hid
    { p := by rw [← pl_rep]; exact p1.alloc _
      R := ⟨Blk.new w1 [.slice none 0 0, .int .i64 0] TRP, Ints.nil _ _, by omega, by simp⟩
      g := Ints.nil _ _
      s := Same12.nil
      bel := q1.alloc q1.size _
      le := Nat.le_refl _
      ne := hs1
      ap := fun k hk => by simp [Value.ownBlock] at hk }
  clear p1 q1
  go_wp2_with fail
  generalize w1.heap.size = r at *
  go_loopw [5, 6] (fun vg i wr => ∃ (k : Nat) (v : Value) (us : List Bool) (L G : List Int) (n : Nat), i = .int .i64 k ∧ k ≤ 120 ∧ n < 256 ∧ G.length ≤ 300 * k ∧ Hid (P12 w wr w.heap.size r (r + 1) v vg us L G n)) (fun _ i _ => 120 - (intOf i).toNat)
  case atStart => exact ⟨0, _, _, [], [], 0, rfl, by omega, by omega, by simp, HP⟩
  case round =>
    obtain ⟨k, v, us, L, G, n, rfl, hk, hn, hG, H⟩ := hrel
    obtain ⟨ga, gc, hvg⟩ := H.out.g.slice
    subst hvg
    clear HP
    by_cases hlt : k < len
    · by_cases hlt2 : k < 120
      · obtain ⟨b2, off, What, N, rfl, hb2, hc0, hc1, hN⟩ := HR.out k hlt
        have hc0' := (H.out.bel.cell (p := ⟨b2, off + k * 2, none⟩) hb2).trans hc0
        have hc1' := (H.out.bel.cell (p := ⟨b2, off + k * 2 + 1, none⟩) hb2).trans hc1
        have hk4 : (k : Int) < 120 := by omega
        clear hc0 hc1
        go_upto_block 2 with fail
        go_cut [5] (fun vg wx => ∃ (v : Value) (us : List Bool) (L G : List Int) (n : Nat), n < 256 ∧ G.length ≤ 300 * (k + 1) ∧ Hid (P12 w wx w.heap.size r (r + 1) v vg us L G n))
        case first =>
          have Hs : Hid (P12 w (wr.alloc (.cells #[.int .i64 What, .int .i64 N] 41)) w.heap.size r (r + 1) v (.slice ga G.length gc) us L G n) := Lib.hid (H.out.alloc _)
          by_cases hW3 : What = 3
          · subst hW3
            go_wp2_with fail
            refine (ffree _ us n N _ Hs.out.p).mono ?_
            rintro e w3 ⟨rfl, g3, p3⟩
            have G3 := Lib.hid g3
            have P3 := Lib.hid p3
            clear g3 p3
            go_wp2_with fail
            refine (bfree2 w _ w3 w.heap.size r (r + 1) v _ us L G n N Hs.out G3.out P3.out).mono ?_
            rintro e w4 ⟨rfl, v', L', H4⟩
            go_wp2_with fail
            go_meet
            case rel => exact ⟨v', _, L', G, n, hn, by omega, H4⟩
          · by_cases hW4 : What = 4
            · subst hW4
              by_cases hN0 : 0 ≤ N
              · by_cases hN1 : N < (G.length : Int)
                · obtain ⟨m, rfl⟩ : ∃ m : Nat, N = m := ⟨N.toNat, by omega⟩
                  have hm : m < G.length := by omega
                  obtain ⟨g, gc', hgv, hg1, hg2, hg3⟩ : ∃ g gc', Value.slice ga G.length gc = .slice (some ⟨g, 0, none⟩) G.length gc' ∧ r + 1 ≤ g ∧ g < wr.heap.size ∧ G.length ≤ gc' := by
                    rcases H.out.g.shape with ⟨_, e⟩ | h1
                    · rw [e] at hm; simp at hm
                    · exact h1
                  simp at hgv
                  obtain ⟨rfl, rfl⟩ := hgv
                  have hcg := Hs.out.g.cell m hm
                  generalize G.getD m 0 = y at hcg
                  go_wp2_with fail
                  refine (ffree _ us n y _ Hs.out.p).mono ?_
                  rintro e w3 ⟨rfl, g3, p3⟩
                  have G3 := Lib.hid g3
                  have P3 := Lib.hid p3
                  clear g3 p3
                  go_wp2_with fail
                  refine (bfree2 w _ w3 w.heap.size r (r + 1) v _ us L G n y Hs.out G3.out P3.out).mono ?_
                  rintro e w4 ⟨rfl, v', L', H4⟩
                  go_wp2_with fail
                  go_meet
                  case rel => exact ⟨v', _, L', G, n, hn, by omega, H4⟩
                · have hN1' : (G.length : Int) ≤ N := by omega
                  go_wp2_with fail
                  refine (ffree _ us n N _ Hs.out.p).mono ?_
                  rintro e w3 ⟨rfl, g3, p3⟩
                  have G3 := Lib.hid g3
                  have P3 := Lib.hid p3
                  clear g3 p3
                  go_wp2_with fail
                  refine (bfree2 w _ w3 w.heap.size r (r + 1) v _ us L G n N Hs.out G3.out P3.out).mono ?_
                  rintro e w4 ⟨rfl, v', L', H4⟩
                  go_wp2_with fail
                  go_meet
                  case rel => exact ⟨v', _, L', G, n, hn, by omega, H4⟩
              · have hN0' : N < 0 := by omega
                go_wp2_with fail
                refine (ffree _ us n N _ Hs.out.p).mono ?_
                rintro e w3 ⟨rfl, g3, p3⟩
                have G3 := Lib.hid g3
                have P3 := Lib.hid p3
                clear g3 p3
                go_wp2_with fail
                refine (bfree2 w _ w3 w.heap.size r (r + 1) v _ us L G n N Hs.out G3.out P3.out).mono ?_
                rintro e w4 ⟨rfl, v', L', H4⟩
                go_wp2_with fail
                go_meet
                case rel => exact ⟨v', _, L', G, n, hn, by omega, H4⟩
            · obtain ⟨wo, hwo⟩ : ∃ wo : World, wo = wr := ⟨_, rfl⟩
              subst hwo
              have X1 := Lib.hid (Blk.new wo [.int .i64 What, .int .i64 N] 41)
              obtain ⟨wA, hwA⟩ : ∃ wA, wo.alloc (.cells #[.int .i64 What, .int .i64 N] 41) = wA := ⟨_, rfl⟩
              rw [hwA] at X1 Hs
              have hb3 : (What == 3) = false := by simpa using hW3
              have hb4 : (What == 4) = false := by simpa using hW4
              have hrX : r < wo.heap.size := by have := H.out.R.lt; have := H.out.R.hB; omega
              rcases (by omega : N < 1 ∨ (1 ≤ N ∧ N ≤ 300) ∨ (1 ≤ N ∧ 300 < N)) with hN1 | ⟨hN1, hN2⟩ | ⟨hN1, hN2⟩
              all_goals
                go_wp2_with fail
                go_loopw [5, 9] (fun vg i wx => ∃ (q : Nat) (v : Value) (us : List Bool) (L G : List Int) (n : Nat), i = .int .i64 q ∧ q ≤ 300 ∧ n < 256 ∧ G.length ≤ 300 * k + q ∧ (∀ j, v.ownBlock = some j → j ≠ wo.heap.size) ∧ (∀ j, vg.ownBlock = some j → j ≠ wo.heap.size) ∧ Hid (P12 w wx w.heap.size r (r + 1) v vg us L G n) ∧ Hid (Blk wx wo.heap.size [.int .i64 What, .int .i64 N] 41)) (fun _ i _ => 300 - (intOf i).toNat)
                case atStart => exact ⟨0, v, us, L, G, n, rfl, by omega, hn, by omega, fun j hj => by have := (H.out.R.i.lt j hj).2; omega, fun j hj => by have := (H.out.g.lt j hj).2; omega, Hs, X1⟩
                case round =>
                  clear Hs X1
                  obtain ⟨q, v, us, L, G, n, rfl, hq, hn, hGq, hv0, hg0, H2, X2⟩ := hrel
                  obtain ⟨ga, gc, hvg⟩ := H2.out.g.slice
                  subst hvg
                  have x1 := X2.out.cell 1 rfl
                  go_wp2_with fail
                  all_goals first
                    | (go_meet
                       case rel => exact ⟨v, us, L, G, n, hn, by omega, H2⟩)
                    | skip
                  all_goals
                    refine (ftake _ us n _ H2.out.p hn).mono ?_
                    rintro e w3 ⟨rfl, g3, p3⟩
                    have G3 := Lib.hid g3
                    have P3 := Lib.hid p3
                    clear g3 p3
                    have X3 := Lib.hid (X2.out.kept (Wrote.of G3.out (fun k => k = w.heap.size) rfl) (by have := H2.out.ne; omega))
                    have hA : 0 ≤ (takeA us n : Int) ∧ (takeA us n : Int) < 256 := by
                      unfold takeA
                      split <;> omega
                    have hN3 : takeN us n < 256 := by
                      unfold takeN
                      split <;> omega
                    have hz3 := (Wrote.of G3.out (fun k => k = w.heap.size) rfl).size
                    go_wp2_with fail
                    refine (btake2 w _ w3 w.heap.size r (r + 1) v _ us L G n hn H2.out G3.out P3.out).mono ?_
                    rintro e w4 ⟨rfl, ⟨v', L', H4, F4⟩, W4⟩
                    have W4' := Lib.hid W4
                    have hv4 : ∀ j, v'.ownBlock = some j → j ≠ wo.heap.size := fun j hj e => by
                      rcases F4 j hj with h | h
                      · exact hv0 j h e
                      · have := X3.out.lt; omega
                    have X4 := Lib.hid (X3.out.kept W4 (fun h => h.elim (fun h => by omega) (fun h => hv0 _ h rfl)))
                    clear W4 F4
                    generalize takeA us n = A at *
                    by_cases hE : takeE us n = 0
                    · rw [hE]
                      go_wp2_with (at_builtin; refine wpList_push rfl (.tmp 63) (.tmp 65) rfl w4 (r + 1) (.slice ga G.length gc) G (A : Int) G.length rfl rfl H4.out.g H4.out.R.hB rfl (by omega) ?_; intro g cap2 w5 hi5 hg5 hat5 hl5 hb5; have I5 := Lib.hid hi5; have G5 := Lib.hid hg5; have AT := Lib.hid hat5; clear hi5 hg5 hat5)
                      have hg5 : ∀ j, (Value.slice (some ⟨g, 0, none⟩) (G.length + 1) cap2).ownBlock = some j → (Value.slice ga G.length gc).ownBlock = some j ∨ w4.heap.size ≤ j := fun j hj => by
                        obtain rfl : g = j := by simpa [Value.ownBlock] using hj
                        exact AT.out
                      have hg6 : ∀ j, (Value.slice (some ⟨g, 0, none⟩) (G.length + 1) cap2).ownBlock = some j → j ≠ wo.heap.size := fun j hj e => by
                        rcases hg5 j hj with h | h
                        · exact hg0 j h e
                        · have := X4.out.lt; omega
                      exact ⟨⟨q + 1, v', _, L', G ++ [(A : Int)], takeN us n, by go_num, by omega, hN3, by simp; omega, hv4, hg6, Lib.hid (H4.out.push I5.out G5.out hg5), Lib.hid (X4.out.kept (p := fun k => (Value.slice ga G.length gc).ownBlock = some k) ⟨G5.out.os, G5.out.tape, G5.out.output, G5.out.size, fun k hk hp => G5.out.block k hk (fun e => hp e.symm)⟩ (fun e => hg0 _ e rfl))⟩, by simp [intOf]; omega⟩
                    · generalize takeE us n = E at *
                      go_wp2_with fail
                      exact ⟨⟨q + 1, v', _, L', G, takeN us n, by go_num, by omega, hN3, by omega, hv4, hg0, H4, X4⟩, by simp [intOf]; omega⟩
        case rest =>
          obtain ⟨v, us, L, G, n, hn, hG2, H2⟩ := hcut
          obtain ⟨ga, gc, hvg⟩ := H2.out.g.slice
          subst hvg
          have hk4 : (k : Int) + 1 < 1000 := by omega
          have c0 := H2.out.R.S.cell 0 rfl
          obtain ⟨va, vc, hv⟩ := H2.out.R.i.slice
          subst hv
          haveI : Nonempty (WIn (fun w' => P12 w w' w.heap.size r (r + 1) (.slice va L.length vc) (.slice ga G.length gc) us L G n)) := ⟨⟨wc, H2.out⟩⟩
          have CL : ∀ x : WIn (fun w' => P12 w w' w.heap.size r (r + 1) (.slice va L.length vc) (.slice ga G.length gc) us L G n), x.val.cell? ⟨r, 0, none⟩ = some (.slice va L.length vc) := fun x => x.property.R.S.cell 0 rfl
          go_upto_region 24 with fail
          refine wp_region_inv (fun w' => P12 w w' w.heap.size r (r + 1) (.slice va L.length vc) (.slice ga G.length gc) us L G n) (by kernel_rfl) (by kernel_rfl) H2.out.drew ?_
          repeat (go_big_quiet_step ((go_at_call 23; exact fused2 _)))
          refine wpQuiet_nil ?_
          intro w6 h6
          have H6 := Lib.hid h6
          clear h6
          go_wp2_with fail
          exact ⟨⟨k + 1, _, us, L, G, n, by go_num, by omega, hn, hG2, H6⟩, by simp [intOf]; omega⟩
      · go_wp2_with fail
        refine (works12 _).mono ?_
        rintro e w9 ⟨rfl, q9⟩
        go_wp2_with fail
        go_returns
        exact ⟨rfl, bthen H.out.bel q9⟩
    · go_wp2_with fail
      refine (works12 _).mono ?_
      rintro e w9 ⟨rfl, q9⟩
      go_wp2_with fail
      go_returns
      exact ⟨rfl, bthen H.out.bel q9⟩

end Go.Proofs.Ytlcjgphibodjkaa
