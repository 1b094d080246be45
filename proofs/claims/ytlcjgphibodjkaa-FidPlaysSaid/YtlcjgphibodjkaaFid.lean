/-
  fid.Pool: each function by its contract.
-/
import Derived.Test.YtlcjgphibodjkaaBase
namespace Go.Proofs.Ytlcjgphibodjkaa
open Go.RowKit

abbrev TP : Nat := 81
/-- A pool behind a pointer: which ids are in use, and the next one. -/
def IsPool (w : World) (b : Nat) (us : List Bool) (n : Int) : Prop := us.length = 256 ∧ w.heap[b]? = some (.cells (us.map Value.bool ++ [Value.int .i64 n]).toArray TP (0, 0))
theorem IsPool.lt {w : World} {b : Nat} {us : List Bool} {n : Int} (h : IsPool w b us n) : b < w.heap.size := lt_of_block h.2
theorem IsPool.used {w : World} {b : Nat} {us : List Bool} {n : Int} (h : IsPool w b us n) (i : Nat) (hi : i < 256) : w.cell? ⟨b, i, none⟩ = some (.bool (us.getD i false)) := by
  obtain ⟨hl, h⟩ := h
  have h1 : (us.map Value.bool ++ [Value.int .i64 n])[i]? = some (.bool (us.getD i false)) := by
    rw [List.getElem?_append_left (by simp; omega), List.getElem?_map, List.getD_eq_getElem?_getD, List.getElem?_eq_getElem (by omega)]
    rfl
  simp [World.cell?, h]
  simpa using h1
theorem IsPool.next {w : World} {b : Nat} {us : List Bool} {n : Int} (h : IsPool w b us n) : w.cell? ⟨b, 256, none⟩ = some (.int .i64 n) := by
  obtain ⟨hl, h⟩ := h
  have h1 : (us.map Value.bool ++ [Value.int .i64 n])[256]? = some (.int .i64 n) := by
    rw [List.getElem?_append_right (by simp; omega), List.length_map, hl]
    rfl
  simp [World.cell?, h]
  simpa using h1
theorem IsPool.free {w : World} {b : Nat} {us : List Bool} {n : Int} (h : IsPool w b us n) (o : Nat) : w.frozen? ⟨b, o, none⟩ = false := by
  have h := h.2
  simp [World.frozen?, h]
theorem IsPool.set {w : World} {b : Nat} {us : List Bool} {n : Int} (h : IsPool w b us n) (i : Nat) (hi : i < 256) (x : Bool) : IsPool (w.setCell ⟨b, i, none⟩ (.bool x)) b (us.set i x) n := by
  have hlt := h.lt
  obtain ⟨hl, h⟩ := h
  refine ⟨by simpa using hl, ?_⟩
  have h' : w.heap[b] = .cells (us.map Value.bool ++ [Value.int .i64 n]).toArray TP (0, 0) := by simpa [Array.getElem?_eq_getElem hlt] using h
  show (w.heap.modify b _)[b]? = _
  rw [Array.getElem?_eq_getElem (by simpa using hlt), Array.getElem_modify_self, h']
  simp
  rw [List.set_append_left _ _ (by simp; omega)]
theorem IsPool.put {w : World} {b : Nat} {us : List Bool} {n : Int} (h : IsPool w b us n) (m : Int) : IsPool (w.setCell ⟨b, 256, none⟩ (.int .i64 m)) b us m := by
  have hlt := h.lt
  obtain ⟨hl, h⟩ := h
  refine ⟨hl, ?_⟩
  have h' : w.heap[b] = .cells (us.map Value.bool ++ [Value.int .i64 n]).toArray TP (0, 0) := by simpa [Array.getElem?_eq_getElem hlt] using h
  show (w.heap.modify b _)[b]? = _
  rw [Array.getElem?_eq_getElem (by simpa using hlt), Array.getElem_modify_self, h']
  simp
  rw [List.set_append_right _ _ (by simp; omega), List.length_map, hl]
  rfl
theorem IsPool.grown {w w' : World} {b c : Nat} {us : List Bool} {n : Int} (h : IsPool w b us n) (hg : w.grownBy w' (some c)) (hne : b ≠ c) : IsPool w' b us n :=
  ⟨h.1, (hg.block b h.lt (fun e => hne (by injection e))).trans h.2⟩
theorem IsPool.below {w w' : World} {b B : Nat} {us : List Bool} {n : Int} (h : IsPool w b us n) (hb : Below B w w') (hB : b < B) : IsPool w' b us n := ⟨h.1, (hb.block b hB).trans h.2⟩
theorem IsPool.alloc {w : World} {b : Nat} {us : List Bool} {n : Int} (h : IsPool w b us n) (o : Obj) : IsPool (w.alloc o) b us n := ⟨h.1, (heap_alloc_old w o h.lt).trans h.2⟩
theorem drew_grown {w w' : World} {r : Option Nat} (h : w.grownBy w' r) : w.grownBy w'.drew r := ⟨h.os, h.tape, h.output, h.size, h.block⟩
theorem alloc_grown (w : World) (o : Obj) (r : Option Nat) : w.grownBy (w.alloc o) r := ⟨rfl, rfl, rfl, by simp, fun k hk _ => heap_alloc_old w o hk⟩

/-- What 'Free' answers, and what is in use after it. -/
def freeE (us : List Bool) (i : Int) : Int := if i < 0 ∨ 256 ≤ i then 2 else if us.getD i.toNat false then 0 else 5
def freeU (us : List Bool) (i : Int) : List Bool := if i < 0 ∨ 256 ≤ i then us else us.set i.toNat false
def countL (us : List Bool) : Nat := us.countP id

theorem zeroP (w : World) : (zeroValue TP).run Try.prog w = .ok (.agg ((List.replicate 256 false).map Value.bool ++ [Value.int .i64 0]).toArray) w := by kernel_rfl
set_option maxRecDepth 100000 in
set_option maxHeartbeats 400000 in
theorem fnew (w : World) : Calls Try.prog 18 #[] w fun e w' => e = .returned (.pointer (some ⟨w.heap.size, 0, none⟩)) ∧ Below w.heap.size w w' ∧ IsPool w' w.heap.size (List.replicate 256 false) 0 := by
  obtain ⟨zp, hzp, hz⟩ : ∃ zp, zp = ((List.replicate 256 false).map Value.bool ++ [Value.int .i64 0]).toArray ∧ ∀ w : World, (zeroValue TP).run Try.prog w = .ok (.agg zp) w := ⟨_, rfl, zeroP⟩
  have H := Lib.hid hzp
  clear hzp
  go_enter Try.func18, Try.ntmps18
  go_wp2_with fail
  go_returns
  refine ⟨rfl, (Below.refl _ _).alloc (Nat.le_refl _) _, by decide, ?_⟩
  rw [← H.out]
  exact heap_alloc_new w _

set_option maxRecDepth 100000 in
set_option maxHeartbeats 400000 in
/-- The part that 'Free' and 'Take' hand over. -/
theorem freeDo (b c1 c2 : Nat) (us : List Bool) (n : Int) (i : Nat) (w : World) (h : IsPool w b us n) (hi : i < 256) (h1 : w.cell? ⟨c1, 0, none⟩ = some (.pointer (some ⟨b, 0, none⟩))) (h2 : w.cell? ⟨c2, 0, none⟩ = some (.int .i64 i)) :
    Calls Try.prog 45 #[.pointer (some ⟨c1, 0, none⟩), .pointer (some ⟨c2, 0, none⟩)] w fun e w' => e = .returned (.tuple #[]) ∧ w.grownBy w' (some b) ∧ IsPool w' b (us.set i false) n := by
  have hf := h.free i
  have hc := h.used i hi
  have hi2 : (i : Int) < 256 := by omega
  have H := Lib.hid h
  clear h
  go_enter Try.func45, Try.ntmps45
  go_region
  go_wp2
  go_returns
  exact ⟨rfl, drew_grown (setCell_grown _ _ _ _), H.out.set i hi false⟩

set_option maxRecDepth 100000 in
set_option maxHeartbeats 400000 in
theorem takeDo (b c1 c2 : Nat) (us : List Bool) (n : Int) (i : Nat) (w : World) (h : IsPool w b us n) (hi : i < 256) (h1 : w.cell? ⟨c1, 0, none⟩ = some (.pointer (some ⟨b, 0, none⟩))) (h2 : w.cell? ⟨c2, 0, none⟩ = some (.int .i64 i)) (hb1 : c1 ≠ b) (hb2 : c2 ≠ b) :
    Calls Try.prog 47 #[.pointer (some ⟨c1, 0, none⟩), .pointer (some ⟨c2, 0, none⟩)] w fun e w' => e = .returned (.tuple #[]) ∧ w.grownBy w' (some b) ∧ IsPool w' b (us.set i true) (((i + 1) % 256 : Nat) : Int) := by
  have hf := h.free i
  have hf2 := h.free 256
  have hc := h.used i hi
  have hc2 := h.next
  have hi2 : (i : Int) < 256 := by omega
  have H := Lib.hid h
  clear h
  go_enter Try.func47, Try.ntmps47
  go_wp2
  go_region
  go_wp2
  go_returns
  refine ⟨rfl, grown_trans (drew_grown (setCell_grown _ _ _ _)) (setCell_grown _ _ _ _), ?_⟩
  have e : ((i : Int) + 1) % 256 = (((i + 1) % 256 : Nat) : Int) := by omega
  rw [← e]
  exact IsPool.put (H.out.set i hi true) _

set_option maxRecDepth 100000 in
set_option maxHeartbeats 400000 in
theorem with_arg (b : Nat) (i e : Int) (u : Bool) (d : Value) (w : World) (hi : i < 0 ∨ 256 ≤ i) :
    Calls Try.prog 44 #[.pointer (some ⟨b, 0, none⟩), .int .i64 i, .bool u, .int .i64 e, d] w fun x w' => x = .returned (.int .i64 2) ∧ w = w' := by
  by_cases h1 : i < 0
  · go_enter Try.func44, Try.ntmps44
    go_wp2
    go_returns
    exact ⟨rfl, rfl⟩
  · have h2 : 256 ≤ i := by omega
    go_enter Try.func44, Try.ntmps44
    go_wp2
    go_returns
    exact ⟨rfl, rfl⟩

set_option maxRecDepth 100000 in
set_option maxHeartbeats 400000 in
theorem with_not (b : Nat) (i : Nat) (e : Int) (u x : Bool) (d : Value) (w : World) (hi : i < 256) (hc : w.cell? ⟨b, i, none⟩ = some (.bool x)) (hx : (x != u) = true) :
    Calls Try.prog 44 #[.pointer (some ⟨b, 0, none⟩), .int .i64 i, .bool u, .int .i64 e, d] w fun r w' => r = .returned (.int .i64 e) ∧ w = w' := by
  have hi2 : (i : Int) < 256 := by omega
  obtain rfl : x = !u := by cases x <;> cases u <;> simp_all
  clear hx
  cases u
  all_goals
   go_enter Try.func44, Try.ntmps44
   go_wp2
   go_returns
   exact ⟨rfl, rfl⟩

set_option maxRecDepth 100000 in
set_option maxHeartbeats 400000 in
theorem with_free (b : Nat) (i : Nat) (e : Int) (cs : Array Value) (w : World) (hi : i < 256) (hc : w.cell? ⟨b, i, none⟩ = some (.bool true)) (R : World → Prop)
    (hd : Calls Try.prog 45 cs w fun r w' => r = .returned (.tuple #[]) ∧ R w') :
    Calls Try.prog 44 #[.pointer (some ⟨b, 0, none⟩), .int .i64 i, .bool true, .int .i64 e, .func (.func 45) #[] cs] w fun r w' => r = .returned (.int .i64 0) ∧ R w' := by
  have hi2 : (i : Int) < 256 := by omega
  go_enter Try.func44, Try.ntmps44
  go_wp2_with fail
  refine hd.mono ?_
  rintro r w1 ⟨rfl, hR⟩
  go_wp2
  go_returns
  exact ⟨rfl, hR⟩

set_option maxRecDepth 100000 in
set_option maxHeartbeats 400000 in
theorem with_take (b : Nat) (i : Nat) (e : Int) (cs : Array Value) (w : World) (hi : i < 256) (hc : w.cell? ⟨b, i, none⟩ = some (.bool false)) (R : World → Prop)
    (hd : Calls Try.prog 47 cs w fun r w' => r = .returned (.tuple #[]) ∧ R w') :
    Calls Try.prog 44 #[.pointer (some ⟨b, 0, none⟩), .int .i64 i, .bool false, .int .i64 e, .func (.func 47) #[] cs] w fun r w' => r = .returned (.int .i64 0) ∧ R w' := by
  have hi2 : (i : Int) < 256 := by omega
  go_enter Try.func44, Try.ntmps44
  go_wp2_with fail
  refine hd.mono ?_
  rintro r w1 ⟨rfl, hR⟩
  go_wp2
  go_returns
  exact ⟨rfl, hR⟩

set_option maxRecDepth 100000 in
set_option maxHeartbeats 400000 in
theorem ffree (b : Nat) (us : List Bool) (n i : Int) (w : World) (h : IsPool w b us n) :
    Calls Try.prog 19 #[.pointer (some ⟨b, 0, none⟩), .int .i64 i] w fun e w' => e = .returned (.int .i64 (freeE us i)) ∧ w.grownBy w' (some b) ∧ IsPool w' b (freeU us i) n := by
  have hmf : ∀ (fn : Fn) (first cap : Array Value) (w : World), (Instr.makeFunc fn first cap).run Try.prog w = .ok (.func fn first cap) w := fun _ _ _ _ => rfl
  have hlt := h.lt
  have hp := Lib.hid ((h.alloc (.cells #[.pointer (some ⟨b, 0, none⟩)] 34)).alloc (.cells #[.int .i64 i] 3))
  have hg := Lib.hid (grown_trans (alloc_grown w (.cells #[.pointer (some ⟨b, 0, none⟩)] 34) (some b)) (alloc_grown (w.alloc (.cells #[.pointer (some ⟨b, 0, none⟩)] 34)) (.cells #[.int .i64 i] 3) (some b)))
  have hc1 := Lib.hid (new_cell2 w #[.pointer (some ⟨b, 0, none⟩)] 34 0 _ (.cells #[.int .i64 i] 3) rfl)
  have hc2 := Lib.hid (new_cell (w.alloc (.cells #[.pointer (some ⟨b, 0, none⟩)] 34)) #[.int .i64 i] 3 0 _ rfl)
  have hs : (w.alloc (.cells #[.pointer (some ⟨b, 0, none⟩)] 34)).heap.size = w.heap.size + 1 := by simp
  rw [hs] at hc2
  clear h hs
  by_cases hi : i < 0 ∨ 256 ≤ i
  · go_enter Try.func19, Try.ntmps19
    go_wp2_with fail
    refine (with_arg b i 5 true _ _ hi).mono ?_
    rintro e _ ⟨rfl, rfl⟩
    go_wp2
    go_returns
    refine ⟨by rw [freeE, if_pos hi]; rfl, hg.out, ?_⟩
    rw [freeU, if_pos hi]
    exact hp.out
  · obtain ⟨k, rfl⟩ : ∃ k : Nat, i = k := ⟨i.toNat, by omega⟩
    have hk : k < 256 := by omega
    cases hu : us.getD k false with
    | false =>
      have hx := hp.out.used k hk
      rw [hu] at hx
      have Hx := Lib.hid hx
      have he : freeE us k = 5 := by unfold freeE; rw [if_neg hi, Int.toNat_natCast, hu]; rfl
      have hU : freeU us k = us := by
        unfold freeU
        rw [if_neg hi, Int.toNat_natCast]
        have hl := hp.out.1
        apply List.ext_getElem (by simp)
        intro j hj1 hj2
        rw [List.getElem_set]
        split
        · rename_i hjk
          subst hjk
          rw [List.getD_eq_getElem?_getD, List.getElem?_eq_getElem hj2] at hu
          exact hu.symm
        · rfl
      have HE := Lib.hid he
      have HU := Lib.hid hU
      clear hx he hU
      go_enter Try.func19, Try.ntmps19
      go_wp2_with fail
      refine (with_not b k 5 true false _ _ hk Hx.out rfl).mono ?_
      rintro e _ ⟨rfl, rfl⟩
      go_wp2
      go_returns
      exact ⟨by rw [HE.out]; rfl, hg.out, by rw [HU.out]; exact hp.out⟩
    | true =>
      have hx := hp.out.used k hk
      rw [hu] at hx
      have Hx := Lib.hid hx
      have HE : Hid (freeE us k = 0) := Lib.hid (by unfold freeE; rw [if_neg hi, Int.toNat_natCast, hu]; rfl)
      have HU : Hid (freeU us k = us.set k false) := Lib.hid (by unfold freeU; rw [if_neg hi, Int.toNat_natCast])
      clear hx
      go_enter Try.func19, Try.ntmps19
      go_wp2_with fail
      refine (with_free b k 5 _ _ hk Hx.out _ (freeDo b w.heap.size (w.heap.size + 1) us n k _ hp.out hk hc1.out hc2.out)).mono ?_
      rintro e w1 ⟨rfl, hg1, hp1⟩
      go_wp2
      go_returns
      exact ⟨by rw [HE.out]; rfl, grown_trans hg.out hg1, by rw [HU.out]; exact hp1⟩

theorem grown_cell {a b : World} {r k o : Nat} {v : Value} (h : a.grownBy b (some r)) (hc : a.cell? ⟨k, o, none⟩ = some v) (hne : k ≠ r) : b.cell? ⟨k, o, none⟩ = some v := by
  have hlt := World.block_lt_of_cell? a _ hc
  have e := h.block k hlt (fun e => hne (by injection e))
  unfold World.cell? at *
  rw [e]
  exact hc
/-- What 'Take' answers, what is in use after it, and the next one. -/
def takeA (us : List Bool) (n : Nat) : Nat := if us.getD n false then 0 else n
def takeE (us : List Bool) (n : Nat) : Int := if us.getD n false then 18 else 0
def takeN (us : List Bool) (n : Nat) : Nat := if us.getD n false then n else (n + 1) % 256
theorem set_same (us : List Bool) (n : Nat) (x : Bool) (hu : us.getD n false = x) : us.set n x = us := by
  apply List.ext_getElem (by simp)
  intro j hj1 hj2
  rw [List.getElem_set]
  split
  · rename_i hjk
    subst hjk
    rw [List.getD_eq_getElem?_getD, List.getElem?_eq_getElem hj2] at hu
    exact hu.symm
  · rfl

set_option maxRecDepth 100000 in
set_option maxHeartbeats 400000 in
theorem ftake (b : Nat) (us : List Bool) (n : Nat) (w : World) (h : IsPool w b us n) (hn : n < 256) :
    Calls Try.prog 21 #[.pointer (some ⟨b, 0, none⟩)] w fun e w' => e = .returned (.tuple #[.int .i64 (takeA us n), .int .i64 (takeE us n)]) ∧ w.grownBy w' (some b) ∧ IsPool w' b (us.set n true) (takeN us n) := by
  have hmf : ∀ (fn : Fn) (first cap : Array Value) (w : World), (Instr.makeFunc fn first cap).run Try.prog w = .ok (.func fn first cap) w := fun _ _ _ _ => rfl
  have hlt := h.lt
  have hnx := h.next
  have hp := Lib.hid ((h.alloc (.cells #[.pointer (some ⟨b, 0, none⟩)] 34)).alloc (.cells #[.int .i64 n] 3))
  have hg := Lib.hid (grown_trans (alloc_grown w (.cells #[.pointer (some ⟨b, 0, none⟩)] 34) (some b)) (alloc_grown (w.alloc (.cells #[.pointer (some ⟨b, 0, none⟩)] 34)) (.cells #[.int .i64 n] 3) (some b)))
  have hc1 := Lib.hid (new_cell2 w #[.pointer (some ⟨b, 0, none⟩)] 34 0 _ (.cells #[.int .i64 n] 3) rfl)
  have hc2 := Lib.hid (new_cell (w.alloc (.cells #[.pointer (some ⟨b, 0, none⟩)] 34)) #[.int .i64 n] 3 0 _ rfl)
  have hs : (w.alloc (.cells #[.pointer (some ⟨b, 0, none⟩)] 34)).heap.size = w.heap.size + 1 := by simp
  rw [hs] at hc2
  have hl := h.1
  clear h hs
  cases hu : us.getD n false with
  | true =>
    have hx := hp.out.used n hn
    rw [hu] at hx
    have Hx := Lib.hid hx
    have HU := Lib.hid (set_same us n true hu)
    have H1 : Hid (takeA us n = 0) := Lib.hid (by unfold takeA; rw [hu]; rfl)
    have H2 : Hid (takeE us n = 18) := Lib.hid (by unfold takeE; rw [hu]; rfl)
    have H3 : Hid (takeN us n = n) := Lib.hid (by unfold takeN; rw [hu]; rfl)
    clear hx
    go_enter Try.func21, Try.ntmps21
    go_wp2_with fail
    refine (with_not b n 18 false true _ _ hn Hx.out rfl).mono ?_
    rintro e _ ⟨rfl, rfl⟩
    go_wp2
    go_returns
    exact ⟨by rw [H1.out, H2.out]; rfl, hg.out, by rw [HU.out, H3.out]; exact hp.out⟩
  | false =>
    have hx := hp.out.used n hn
    rw [hu] at hx
    have Hx := Lib.hid hx
    have H1 : Hid (takeA us n = n) := Lib.hid (by unfold takeA; rw [hu]; rfl)
    have H2 : Hid (takeE us n = 0) := Lib.hid (by unfold takeE; rw [hu]; rfl)
    have H3 : Hid (takeN us n = (n + 1) % 256) := Lib.hid (by unfold takeN; rw [hu]; rfl)
    clear hx
    go_enter Try.func21, Try.ntmps21
    go_wp2_with fail
    refine (with_take b n 18 _ _ hn Hx.out _ (takeDo b w.heap.size (w.heap.size + 1) us n n _ hp.out hn hc1.out hc2.out (by omega) (by omega))).mono ?_
    rintro e w1 ⟨rfl, hg1, hp1⟩
    have hcl : w1.cell? ⟨w.heap.size + 1, 0, none⟩ = some (.int .i64 n) := grown_cell hg1 hc2.out (by omega)
    go_wp2
    go_returns
    exact ⟨by rw [H1.out, H2.out]; rfl, grown_trans hg.out hg1, by rw [H3.out]; exact hp1⟩

set_option maxRecDepth 100000 in
set_option maxHeartbeats 400000 in
/-- 'Used' counts. -/
theorem fused (b : Nat) (us : List Bool) (n : Int) (w : World) (h : IsPool w b us n) :
    Calls Try.prog 23 #[.pointer (some ⟨b, 0, none⟩)] w fun e w' => e = .returned (.int .i64 (us.countP id)) ∧ w = w' := by
  have hl := h.1
  go_enter Try.func23, Try.ntmps23
  go_wp2
  go_loop [3, 5] (fun n i => ∃ k : Nat, k ≤ 256 ∧ i = .int .i64 k ∧ n = .int .i64 ((us.take k).countP id)) (fun _ i => 256 - (intOf i).toNat)
  case atStart => exact ⟨0, by omega, rfl, rfl⟩
  case round =>
    obtain ⟨k, hk, rfl, rfl⟩ := hrel
    have hle : (us.take k).countP id ≤ k := Nat.le_trans List.countP_le_length (by simp; omega)
    by_cases hlt : k < 256
    · have hc := h.used k hlt
      have H := Lib.hid h
      have hlt2 : (k : Int) < 256 := by omega
      have hs : us.take (k + 1) = us.take k ++ [us.getD k false] := by
        rw [List.take_succ_eq_append_getElem (by omega), List.getD_eq_getElem?_getD, List.getElem?_eq_getElem (by omega)]
        rfl
      cases hu : us.getD k false with
      | true =>
        rw [hu] at hs hc
        have HS : Hid ((us.take (k + 1)).countP id = (us.take k).countP id + 1) := Lib.hid (by rw [hs, List.countP_append]; rfl)
        clear hs h
        go_wp2
        exact ⟨⟨k + 1, by omega, by go_num, by rw [HS.out]; go_num⟩, by simp [intOf]; omega⟩
      | false =>
        rw [hu] at hs hc
        have HS : Hid ((us.take (k + 1)).countP id = (us.take k).countP id) := Lib.hid (by rw [hs, List.countP_append]; rfl)
        clear hs h
        go_wp2
        exact ⟨⟨k + 1, by omega, by go_num, by rw [HS.out]⟩, by simp [intOf]; omega⟩
    · obtain rfl : k = 256 := by omega
      have H := Lib.hid h
      have he := Lib.hid (List.take_of_length_le (l := us) (i := 256) (by omega))
      clear h
      go_wp2
      go_returns
      exact ⟨by rw [he.out]; rfl, rfl⟩

end Go.Proofs.Ytlcjgphibodjkaa
