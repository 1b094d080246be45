/-
  bucket.Bucket and aerialref21.Bucket: each function by its contract.
-/
import Derived.Test.YtcknfjchmokboaaBase
namespace Go.Proofs.Ytcknfjchmokboaa
open Go.RowKit

/-- A struct of three integers behind a pointer. -/
def St3 (T : Nat) (w : World) (b : Nat) (m r l : Int) : Prop := w.heap[b]? = some (.cells #[.int .i64 m, .int .i64 r, .int .i64 l] T (0, 0))
theorem St3.c0 {T : Nat} {w : World} {b : Nat} {m r l : Int} (h : St3 T w b m r l) : w.cell? ⟨b, 0, none⟩ = some (.int .i64 m) := by unfold St3 at h; simp [World.cell?, h]
theorem St3.c1 {T : Nat} {w : World} {b : Nat} {m r l : Int} (h : St3 T w b m r l) : w.cell? ⟨b, 1, none⟩ = some (.int .i64 r) := by unfold St3 at h; simp [World.cell?, h]
theorem St3.c2 {T : Nat} {w : World} {b : Nat} {m r l : Int} (h : St3 T w b m r l) : w.cell? ⟨b, 2, none⟩ = some (.int .i64 l) := by unfold St3 at h; simp [World.cell?, h]
theorem St3.free {T : Nat} {w : World} {b : Nat} {m r l : Int} (h : St3 T w b m r l) (o : Nat) : w.frozen? ⟨b, o, none⟩ = false := by unfold St3 at h; simp [World.frozen?, h]
theorem St3.lt {T : Nat} {w : World} {b : Nat} {m r l : Int} (h : St3 T w b m r l) : b < w.heap.size := lt_of_block h
theorem St3.put {T : Nat} {w : World} {b : Nat} {m r l : Int} (h : St3 T w b m r l) (x : Int) : St3 T (w.setCell ⟨b, 2, none⟩ (.int .i64 x)) b m r x := by
  unfold St3 at *
  have hlt := lt_of_block h
  have h' : w.heap[b] = .cells #[.int .i64 m, .int .i64 r, .int .i64 l] T (0, 0) := by simpa [Array.getElem?_eq_getElem hlt] using h
  show (w.heap.modify b _)[b]? = _
  rw [Array.getElem?_eq_getElem (by simpa using hlt), Array.getElem_modify_self, h']
  rfl
theorem St3.drew {T : Nat} {w : World} {b : Nat} {m r l : Int} (h : St3 T w b m r l) : St3 T w.drew b m r l := h
theorem St3.new (T : Nat) (w : World) (m r l : Int) : St3 T (w.alloc (.cells #[.int .i64 m, .int .i64 r, .int .i64 l] T)) w.heap.size m r l := heap_alloc_new w _
theorem St3.below {T : Nat} {w w' : World} {b B : Nat} {m r l : Int} (h : St3 T w b m r l) (hb : Below B w w') (hB : b < B) : St3 T w' b m r l := (hb.block b hB).trans h
theorem St3.grown {T : Nat} {w w' : World} {b c : Nat} {m r l : Int} (h : St3 T w b m r l) (hg : w.grownBy w' (some c)) (hne : b ≠ c) : St3 T w' b m r l :=
  (hg.block b h.lt (fun e => hne (by injection e))).trans h
theorem drew_grown {w w' : World} {r : Option Nat} (h : w.grownBy w' r) : w.grownBy w'.drew r := ⟨h.os, h.tape, h.output, h.size, h.block⟩

/-- May it be paid? -/
def mayB (n l : Int) : Bool := decide (1 ≤ n) && decide (n ≤ l)
def tickL (m r l : Int) : Int := if m < l + r then m else l + r
def payL (n l : Int) : Int := if mayB n l then l - n else l
theorem mayB_yes {n l : Int} (h1 : 1 ≤ n) (h2 : n ≤ l) : mayB n l = true := by simp [mayB, h1, h2]
theorem mayB_no {n l : Int} (h : ¬ (1 ≤ n ∧ n ≤ l)) : mayB n l = false := by
  unfold mayB
  rw [Bool.and_eq_false_iff, decide_eq_false_iff_not, decide_eq_false_iff_not]
  omega

abbrev TB : Nat := 50
abbrev TR : Nat := 39

set_option maxRecDepth 100000 in
set_option maxHeartbeats 400000 in
theorem bnew_no (m r : Int) (w : World) (h : m < 1 ∨ 10000000 < m ∨ r < 1 ∨ 1000000 < r) :
    Calls Try.prog 17 #[.int .i64 m, .int .i64 r] w fun e w' => e = .returned (.pointer none) ∧ w = w' := by
  by_cases h1 : m < 1
  · go_enter Try.func17, Try.ntmps17
    go_wp2
    go_returns
    exact ⟨rfl, rfl⟩
  · by_cases h2 : 10000000 < m
    · go_enter Try.func17, Try.ntmps17
      go_wp2
      go_returns
      exact ⟨rfl, rfl⟩
    · by_cases h3 : r < 1
      · go_enter Try.func17, Try.ntmps17
        go_wp2
        go_returns
        exact ⟨rfl, rfl⟩
      · have h4 : 1000000 < r := by omega
        go_enter Try.func17, Try.ntmps17
        go_wp2
        go_returns
        exact ⟨rfl, rfl⟩

set_option maxRecDepth 100000 in
set_option maxHeartbeats 400000 in
theorem bnew_yes (m r : Int) (w : World) (h1 : 1 ≤ m) (h2 : m ≤ 10000000) (h3 : 1 ≤ r) (h4 : r ≤ 1000000) :
    Calls Try.prog 17 #[.int .i64 m, .int .i64 r] w fun e w' => e = .returned (.pointer (some ⟨w.heap.size, 0, none⟩)) ∧ Below w.heap.size w w' ∧ St3 TB w' w.heap.size m r m := by
  go_enter Try.func17, Try.ntmps17
  go_wp2
  go_returns
  exact ⟨rfl, (Below.refl _ _).alloc (Nat.le_refl _) _, St3.new _ _ _ _ _⟩

set_option maxRecDepth 100000 in
set_option maxHeartbeats 400000 in
theorem btick (b : Nat) (m r l : Int) (w : World) (h : St3 TB w b m r l) (hm : 0 ≤ l ∧ l ≤ 10000000) (hr : 0 ≤ r ∧ r ≤ 1000000) :
    Calls Try.prog 20 #[.pointer (some ⟨b, 0, none⟩)] w fun e w' => e = .returned (.tuple #[]) ∧ w.grownBy w' (some b) ∧ St3 TB w' b m r (tickL m r l) := by
  have c0 := h.c0
  have c1 := h.c1
  have c2 := h.c2
  have f2 := h.free 2
  obtain ⟨hm1, hm2⟩ := hm
  obtain ⟨hr1, hr2⟩ := hr
  have H := Lib.hid h
  clear h
  by_cases hlt : m < l + r
  all_goals
    go_enter Try.func20, Try.ntmps20
    go_wp2
    go_region
    go_wp2
    go_returns
    refine ⟨rfl, drew_grown (setCell_grown _ _ _ _), ?_⟩
    have h2 := H.out.put (tickL m r l)
    unfold tickL at *
    first
      | (rw [if_pos hlt] at *; exact h2)
      | (rw [if_neg (by omega)] at *; exact h2)

set_option maxRecDepth 100000 in
set_option maxHeartbeats 400000 in
theorem bmay (b : Nat) (m r l n : Int) (w : World) (h : St3 TB w b m r l) :
    Calls Try.prog 22 #[.pointer (some ⟨b, 0, none⟩), .int .i64 n] w fun e w' => e = .returned (.bool (mayB n l)) ∧ w = w' := by
  have c2 := h.c2
  clear h
  by_cases h1 : 1 ≤ n
  · by_cases h2 : n ≤ l
    · have e := Lib.hid (mayB_yes h1 h2)
      go_enter Try.func22, Try.ntmps22
      go_wp2
      go_returns
      exact ⟨by rw [e.out]; rfl, rfl⟩
    · have e := Lib.hid (mayB_no (n := n) (l := l) (by omega))
      go_enter Try.func22, Try.ntmps22
      go_wp2
      go_returns
      exact ⟨by rw [e.out]; rfl, rfl⟩
  · have e := Lib.hid (mayB_no (n := n) (l := l) (by omega))
    go_enter Try.func22, Try.ntmps22
    go_wp2
    go_returns
    exact ⟨by rw [e.out]; rfl, rfl⟩

set_option maxRecDepth 100000 in
set_option maxHeartbeats 400000 in
theorem btake (b : Nat) (m r l n : Int) (w : World) (h : St3 TB w b m r l) (hm : 0 ≤ l ∧ l ≤ 10000000) :
    Calls Try.prog 28 #[.pointer (some ⟨b, 0, none⟩), .int .i64 n, .func (.func 22) #[.pointer (some ⟨b, 0, none⟩)] #[]] w fun e w' =>
      e = .returned (.bool (mayB n l)) ∧ w.grownBy w' (some b) ∧ St3 TB w' b m r (payL n l) := by
  have c2 := h.c2
  have f2 := h.free 2
  obtain ⟨hm1, hm2⟩ := hm
  by_cases hb : mayB n l = true
  · have hn : 1 ≤ n ∧ n ≤ l := by
      have := hb
      unfold mayB at this
      rw [Bool.and_eq_true, decide_eq_true_eq, decide_eq_true_eq] at this
      exact this
    obtain ⟨hn1, hn2⟩ := hn
    have H := Lib.hid h
    have hp : Hid (payL n l = l - n) := Lib.hid (by unfold payL; rw [if_pos hb])
    clear h
    go_enter Try.func28, Try.ntmps28
    go_wp2_with fail
    refine (bmay b m r l n _ H.out).mono ?_
    rintro e _ ⟨rfl, rfl⟩
    go_wp2
    go_returns
    exact ⟨by rw [hb]; rfl, setCell_grown _ _ _ _, by rw [hp.out]; exact H.out.put _⟩
  · have hb : mayB n l = false := by simpa using hb
    have H := Lib.hid h
    have hp : Hid (payL n l = l) := Lib.hid (by unfold payL; rw [hb]; rfl)
    clear h
    go_enter Try.func28, Try.ntmps28
    go_wp2_with fail
    refine (bmay b m r l n _ H.out).mono ?_
    rintro e _ ⟨rfl, rfl⟩
    go_wp2
    go_returns
    exact ⟨by rw [hb]; rfl, ⟨rfl, rfl, rfl, Nat.le_refl _, fun _ _ _ => rfl⟩, by rw [hp.out]; exact H.out⟩

set_option maxRecDepth 100000 in
set_option maxHeartbeats 400000 in
theorem bpay (b : Nat) (m r l n : Int) (w : World) (h : St3 TB w b m r l) (hm : 0 ≤ l ∧ l ≤ 10000000) :
    Calls Try.prog 24 #[.pointer (some ⟨b, 0, none⟩), .int .i64 n] w fun e w' =>
      e = .returned (.bool (mayB n l)) ∧ w.grownBy w' (some b) ∧ St3 TB w' b m r (payL n l) := by
  have hmf : ∀ (fn : Fn) (first cap : Array Value) (w : World), (Instr.makeFunc fn first cap).run Try.prog w = .ok (.func fn first cap) w := fun _ _ _ _ => rfl
  have H := Lib.hid h
  clear h
  go_enter Try.func24, Try.ntmps24
  go_wp2_with fail
  refine (btake b m r l n _ H.out hm).mono ?_
  rintro e w1 ⟨rfl, hg, hs⟩
  have Hg := Lib.hid (And.intro hg hs)
  clear hg hs
  go_wp2
  go_returns
  exact ⟨rfl, Hg.out.1, Hg.out.2⟩

set_option maxRecDepth 100000 in
set_option maxHeartbeats 400000 in
theorem bleft (b : Nat) (m r l : Int) (w : World) (h : St3 TB w b m r l) :
    Calls Try.prog 26 #[.pointer (some ⟨b, 0, none⟩)] w fun e w' => e = .returned (.int .i64 l) ∧ w = w' := by
  have c2 := h.c2
  clear h
  go_enter Try.func26, Try.ntmps26
  go_wp2
  go_returns
  exact ⟨rfl, rfl⟩

set_option maxRecDepth 100000 in
set_option maxHeartbeats 400000 in
theorem rnew_no (m r : Int) (w : World) (h : m < 1 ∨ 10000000 < m ∨ r < 1 ∨ 1000000 < r) :
    Calls Try.prog 18 #[.int .i64 m, .int .i64 r] w fun e w' => e = .returned (.pointer none) ∧ w = w' := by
  by_cases h1 : m < 1
  · go_enter Try.func18, Try.ntmps18
    go_wp2
    go_returns
    exact ⟨rfl, rfl⟩
  · by_cases h2 : 10000000 < m
    · go_enter Try.func18, Try.ntmps18
      go_wp2
      go_returns
      exact ⟨rfl, rfl⟩
    · by_cases h3 : r < 1
      · go_enter Try.func18, Try.ntmps18
        go_wp2
        go_returns
        exact ⟨rfl, rfl⟩
      · have h4 : 1000000 < r := by omega
        go_enter Try.func18, Try.ntmps18
        go_wp2
        go_returns
        exact ⟨rfl, rfl⟩

set_option maxRecDepth 100000 in
set_option maxHeartbeats 400000 in
theorem rnew_yes (m r : Int) (w : World) (h1 : 1 ≤ m) (h2 : m ≤ 10000000) (h3 : 1 ≤ r) (h4 : r ≤ 1000000) :
    Calls Try.prog 18 #[.int .i64 m, .int .i64 r] w fun e w' => e = .returned (.pointer (some ⟨w.heap.size, 0, none⟩)) ∧ Below w.heap.size w w' ∧ St3 TR w' w.heap.size m r m := by
  go_enter Try.func18, Try.ntmps18
  go_wp2
  go_returns
  exact ⟨rfl, (Below.refl _ _).alloc (Nat.le_refl _) _, St3.new _ _ _ _ _⟩

set_option maxRecDepth 100000 in
set_option maxHeartbeats 400000 in
theorem rtick (b : Nat) (m r l : Int) (w : World) (h : St3 TR w b m r l) (hm : 0 ≤ l ∧ l ≤ 10000000) (hr : 0 ≤ r ∧ r ≤ 1000000) :
    Calls Try.prog 21 #[.pointer (some ⟨b, 0, none⟩)] w fun e w' => e = .returned (.tuple #[]) ∧ w.grownBy w' (some b) ∧ St3 TR w' b m r (tickL m r l) := by
  have c0 := h.c0
  have c1 := h.c1
  have c2 := h.c2
  have f2 := h.free 2
  obtain ⟨hm1, hm2⟩ := hm
  obtain ⟨hr1, hr2⟩ := hr
  have H := Lib.hid h
  clear h
  by_cases hlt : m < l + r
  all_goals
    go_enter Try.func21, Try.ntmps21
    go_wp2
    go_region
    go_wp2
    go_returns
    refine ⟨rfl, drew_grown (setCell_grown _ _ _ _), ?_⟩
    have h2 := H.out.put (tickL m r l)
    unfold tickL at *
    first
      | (rw [if_pos hlt] at *; exact h2)
      | (rw [if_neg (by omega)] at *; exact h2)

set_option maxRecDepth 100000 in
set_option maxHeartbeats 400000 in
theorem rmay (b : Nat) (m r l n : Int) (w : World) (h : St3 TR w b m r l) :
    Calls Try.prog 23 #[.pointer (some ⟨b, 0, none⟩), .int .i64 n] w fun e w' => e = .returned (.bool (mayB n l)) ∧ w = w' := by
  have c2 := h.c2
  clear h
  by_cases h1 : 1 ≤ n
  · by_cases h2 : n ≤ l
    · have e := Lib.hid (mayB_yes h1 h2)
      go_enter Try.func23, Try.ntmps23
      go_wp2
      go_returns
      exact ⟨by rw [e.out]; rfl, rfl⟩
    · have e := Lib.hid (mayB_no (n := n) (l := l) (by omega))
      go_enter Try.func23, Try.ntmps23
      go_wp2
      go_returns
      exact ⟨by rw [e.out]; rfl, rfl⟩
  · have e := Lib.hid (mayB_no (n := n) (l := l) (by omega))
    go_enter Try.func23, Try.ntmps23
    go_wp2
    go_returns
    exact ⟨by rw [e.out]; rfl, rfl⟩

set_option maxRecDepth 100000 in
set_option maxHeartbeats 400000 in
theorem rpay (b : Nat) (m r l n : Int) (w : World) (h : St3 TR w b m r l) (hm : 0 ≤ l ∧ l ≤ 10000000) :
    Calls Try.prog 25 #[.pointer (some ⟨b, 0, none⟩), .int .i64 n] w fun e w' =>
      e = .returned (.bool (mayB n l)) ∧ w.grownBy w' (some b) ∧ St3 TR w' b m r (payL n l) := by
  have c2 := h.c2
  have f2 := h.free 2
  obtain ⟨hm1, hm2⟩ := hm
  by_cases hb : mayB n l = true
  · have hn : 1 ≤ n ∧ n ≤ l := by
      have := hb
      unfold mayB at this
      rw [Bool.and_eq_true, decide_eq_true_eq, decide_eq_true_eq] at this
      exact this
    obtain ⟨hn1, hn2⟩ := hn
    have H := Lib.hid h
    have hp : Hid (payL n l = l - n) := Lib.hid (by unfold payL; rw [if_pos hb])
    clear h
    go_enter Try.func25, Try.ntmps25
    go_wp2_with fail
    refine (rmay b m r l n _ H.out).mono ?_
    rintro e _ ⟨rfl, rfl⟩
    go_wp2
    go_returns
    exact ⟨by rw [hb]; rfl, setCell_grown _ _ _ _, by rw [hp.out]; exact H.out.put _⟩
  · have hb : mayB n l = false := by simpa using hb
    have H := Lib.hid h
    have hp : Hid (payL n l = l) := Lib.hid (by unfold payL; rw [hb]; rfl)
    clear h
    go_enter Try.func25, Try.ntmps25
    go_wp2_with fail
    refine (rmay b m r l n _ H.out).mono ?_
    rintro e _ ⟨rfl, rfl⟩
    go_wp2
    go_returns
    exact ⟨by rw [hb]; rfl, ⟨rfl, rfl, rfl, Nat.le_refl _, fun _ _ _ => rfl⟩, by rw [hp.out]; exact H.out⟩

set_option maxRecDepth 100000 in
set_option maxHeartbeats 400000 in
theorem works21 (w : World) : Calls Try.prog 19 #[] w fun e w' => e = .returned (.bool true) ∧ Below w.heap.size w w' := by
  go_enter Try.func19, Try.ntmps19
  go_wp2_with fail
  refine (bnew_yes 100 30 _ (by decide) (by decide) (by decide) (by decide)).mono ?_
  rintro e w1 ⟨rfl, q1, s1⟩
  have hb : w.heap.size < w1.heap.size := s1.lt
  obtain ⟨B, hB⟩ : ∃ B, B = w.heap.size := ⟨_, rfl⟩
  rw [← hB] at s1 hb q1
  have HB := Lib.hid hB
  rw [← hB]
  clear hB
  have S1 := Lib.hid s1
  clear s1
  go_wp2_with fail
  refine (bmay _ _ _ _ _ _ S1.out).mono ?_
  rintro e _ ⟨rfl, rfl⟩
  have m1 : mayB 100 100 = true := by decide
  have m2 : mayB 101 100 = false := by decide
  have m3 : mayB 80 100 = true := by decide
  go_wp2_with fail
  refine (bmay _ _ _ _ _ _ S1.out).mono ?_
  rintro e _ ⟨rfl, rfl⟩
  go_wp2_with fail
  refine (bpay _ _ _ _ _ _ S1.out (by decide)).mono ?_
  rintro e w2 ⟨rfl, g2, s2⟩
  have S2 := Lib.hid s2
  clear s2
  go_wp2_with fail
  refine (bleft _ _ _ _ _ S2.out).mono ?_
  rintro e _ ⟨rfl, rfl⟩
  have m4 : payL 80 100 = 20 := by decide
  go_wp2_with fail
  refine (btick _ _ _ _ _ S2.out (by decide) (by decide)).mono ?_
  rintro e w3 ⟨rfl, g3, s3⟩
  have S3 := Lib.hid s3
  clear s3
  go_wp2_with fail
  refine (bleft _ _ _ _ _ S3.out).mono ?_
  rintro e _ ⟨rfl, rfl⟩
  have m5 : tickL 100 30 (payL 80 100) = 50 := by decide
  rw [m5]
  go_wp2_with fail
  go_returns
  rw [← HB.out]
  exact ⟨rfl, (q1.grown g2 (by omega) (fun k hk => by cases hk; exact Nat.le_refl _)).grown g3 (by have := g2.size; omega) (fun k hk => by cases hk; exact Nat.le_refl _)⟩

set_option maxRecDepth 100000 in
set_option maxHeartbeats 400000 in
theorem btick_nil (w : World) : Calls Try.prog 20 #[.pointer none] w fun e w' => e = .returned (.tuple #[]) ∧ w = w' := by
  go_enter Try.func20, Try.ntmps20
  go_wp2
  go_returns
  exact ⟨rfl, rfl⟩

set_option maxRecDepth 100000 in
set_option maxHeartbeats 400000 in
theorem bmay_nil (n : Int) (w : World) : Calls Try.prog 22 #[.pointer none, .int .i64 n] w fun e w' => e = .returned (.bool false) ∧ w = w' := by
  go_enter Try.func22, Try.ntmps22
  go_wp2
  go_returns
  exact ⟨rfl, rfl⟩

set_option maxRecDepth 100000 in
set_option maxHeartbeats 400000 in
theorem bleft_nil (w : World) : Calls Try.prog 26 #[.pointer none] w fun e w' => e = .returned (.int .i64 0) ∧ w = w' := by
  go_enter Try.func26, Try.ntmps26
  go_wp2
  go_returns
  exact ⟨rfl, rfl⟩

set_option maxRecDepth 100000 in
set_option maxHeartbeats 400000 in
theorem bpay_nil (n : Int) (w : World) : Calls Try.prog 24 #[.pointer none, .int .i64 n] w fun e w' => e = .returned (.bool false) ∧ w = w' := by
  have hmf : ∀ (fn : Fn) (first cap : Array Value) (w : World), (Instr.makeFunc fn first cap).run Try.prog w = .ok (.func fn first cap) w := fun _ _ _ _ => rfl
  go_enter Try.func24, Try.ntmps24
  go_wp2
  go_returns
  exact ⟨rfl, rfl⟩

/-- The bucket B behind a call that writes to it alone, the call's own new block being B = the heap's old size. -/
theorem own_grown {w0 w w' : World} {B : Nat} (h : Below w0.heap.size w0 w) (hg : w.grownBy w' (some B)) (hB : w0.heap.size ≤ B) : Below w0.heap.size w0 w' :=
  h.grown hg h.size (fun k hk => by cases hk; exact hB)

end Go.Proofs.Ytcknfjchmokboaa
