/-
  bbh.within, bbh.Check, aerialref13.May: by contract. (The rounds printed by mkbbh.py.)
-/
import Derived.Test.YtdipbdoekmcgbaaNum
namespace Go.Proofs.Ytdipbdoekmcgbaa
open Go.RowKit

abbrev THead : Nat := 23
abbrev headV (a b c d e : Int) : Value := .agg #[.int .i64 a, .int .i64 b, .int .i64 c, .int .i64 d, .int .i64 e]
abbrev headC (a b c d e : Int) : List Value := [.int .i64 a, .int .i64 b, .int .i64 c, .int .i64 d, .int .i64 e]
def May5 (a0 m0 a1 m1 a2 m2 a3 m3 a4 m4 : Int) : Prop := (0 ≤ a0 ∧ a0 ≤ m0) ∧ (0 ≤ a1 ∧ a1 ≤ m1) ∧ (0 ≤ a2 ∧ a2 ≤ m2) ∧ (0 ≤ a3 ∧ a3 ≤ m3) ∧ (0 ≤ a4 ∧ a4 ≤ m4)
instance (a0 m0 a1 m1 a2 m2 a3 m3 a4 m4 : Int) : Decidable (May5 a0 m0 a1 m1 a2 m2 a3 m3 a4 m4) := by unfold May5; infer_instance
def mayB (a0 m0 a1 m1 a2 m2 a3 m3 a4 m4 : Int) : Bool := decide (May5 a0 m0 a1 m1 a2 m2 a3 m3 a4 m4)
theorem may_no {a0 m0 a1 m1 a2 m2 a3 m3 a4 m4 : Int} (h : ¬ ((0 ≤ a0 ∧ a0 ≤ m0) ∧ (0 ≤ a1 ∧ a1 ≤ m1) ∧ (0 ≤ a2 ∧ a2 ≤ m2) ∧ (0 ≤ a3 ∧ a3 ≤ m3) ∧ (0 ≤ a4 ∧ a4 ≤ m4))) : mayB a0 m0 a1 m1 a2 m2 a3 m3 a4 m4 = false := decide_eq_false h
theorem may_yes {a0 m0 a1 m1 a2 m2 a3 m3 a4 m4 : Int} (h : (0 ≤ a0 ∧ a0 ≤ m0) ∧ (0 ≤ a1 ∧ a1 ≤ m1) ∧ (0 ≤ a2 ∧ a2 ≤ m2) ∧ (0 ≤ a3 ∧ a3 ≤ m3) ∧ (0 ≤ a4 ∧ a4 ≤ m4)) : mayB a0 m0 a1 m1 a2 m2 a3 m3 a4 m4 = true := decide_eq_true h

set_option maxRecDepth 100000 in
set_option maxHeartbeats 1600000 in
theorem within_is (g : Nat) (T : TypeId) (a0 m0 a1 m1 a2 m2 a3 m3 a4 m4 : Int) (w : World) (h : Blk w g [.int .i64 a0, .int .i64 m0, .int .i64 a1, .int .i64 m1, .int .i64 a2, .int .i64 m2, .int .i64 a3, .int .i64 m3, .int .i64 a4, .int .i64 m4] T) :
    Calls Try.prog 32 #[.slice (some ⟨g, 0, none⟩) 5 5] w fun e w' => e = .returned (.bool (mayB a0 m0 a1 m1 a2 m2 a3 m3 a4 m4)) ∧ Below w.heap.size w w' := by
  have H := Lib.hid h
  clear h
  go_enter Try.func32, Try.ntmps32
  go_wp2_with fail
  go_loopw [7] (fun i wr => ∃ k : Nat, k ≤ 5 ∧ i = .int .i64 k ∧ (0 < k → 0 ≤ a0 ∧ a0 ≤ m0) ∧ (1 < k → 0 ≤ a1 ∧ a1 ≤ m1) ∧ (2 < k → 0 ≤ a2 ∧ a2 ≤ m2) ∧ (3 < k → 0 ≤ a3 ∧ a3 ≤ m3) ∧ (4 < k → 0 ≤ a4 ∧ a4 ≤ m4) ∧
    Hid (Blk wr g [.int .i64 a0, .int .i64 m0, .int .i64 a1, .int .i64 m1, .int .i64 a2, .int .i64 m2, .int .i64 a3, .int .i64 m3, .int .i64 a4, .int .i64 m4] T) ∧ Hid (Below w.heap.size w wr)) (fun i _ => 5 - (intOf i).toNat)
  case atStart => exact ⟨0, by omega, rfl, by omega, by omega, by omega, by omega, by omega, H, Lib.hid (Below.refl _ _)⟩
  case round =>
    obtain ⟨k, hk, rfl, ok0, ok1, ok2, ok3, ok4, G, bel⟩ := hrel
    clear H
    match k, hk with
    | 0, _ =>
      have c0 := G.out.cell 0 rfl
      have c1 := G.out.cell 1 rfl
      by_cases h1 : a0 < 0
      · go_wp2_with fail
        go_returns
        exact ⟨by rw [show mayB a0 m0 a1 m1 a2 m2 a3 m3 a4 m4 = false from may_no (by omega)]; rfl, bel.out.alloc bel.out.size _⟩
      · have h1' : 0 ≤ a0 := by omega
        by_cases h2 : a0 ≤ m0
        · go_wp2_with fail
          exact ⟨⟨1, by omega, by go_num, fun _ => (by first | exact ok0 (by omega) | exact ⟨h1', h2⟩ | omega), fun _ => (by first | exact ok1 (by omega) | exact ⟨h1', h2⟩ | omega), fun _ => (by first | exact ok2 (by omega) | exact ⟨h1', h2⟩ | omega), fun _ => (by first | exact ok3 (by omega) | exact ⟨h1', h2⟩ | omega), fun _ => (by first | exact ok4 (by omega) | exact ⟨h1', h2⟩ | omega), Lib.hid (G.out.alloc _), Lib.hid (bel.out.alloc bel.out.size _)⟩, by decide⟩
        · have h2' : m0 < a0 := by omega
          go_wp2_with fail
          go_returns
          exact ⟨by rw [show mayB a0 m0 a1 m1 a2 m2 a3 m3 a4 m4 = false from may_no (by omega)]; rfl, bel.out.alloc bel.out.size _⟩
    | 1, _ =>
      have c0 := G.out.cell 2 rfl
      have c1 := G.out.cell 3 rfl
      by_cases h1 : a1 < 0
      · go_wp2_with fail
        go_returns
        exact ⟨by rw [show mayB a0 m0 a1 m1 a2 m2 a3 m3 a4 m4 = false from may_no (by omega)]; rfl, bel.out.alloc bel.out.size _⟩
      · have h1' : 0 ≤ a1 := by omega
        by_cases h2 : a1 ≤ m1
        · go_wp2_with fail
          exact ⟨⟨2, by omega, by go_num, fun _ => (by first | exact ok0 (by omega) | exact ⟨h1', h2⟩ | omega), fun _ => (by first | exact ok1 (by omega) | exact ⟨h1', h2⟩ | omega), fun _ => (by first | exact ok2 (by omega) | exact ⟨h1', h2⟩ | omega), fun _ => (by first | exact ok3 (by omega) | exact ⟨h1', h2⟩ | omega), fun _ => (by first | exact ok4 (by omega) | exact ⟨h1', h2⟩ | omega), Lib.hid (G.out.alloc _), Lib.hid (bel.out.alloc bel.out.size _)⟩, by decide⟩
        · have h2' : m1 < a1 := by omega
          go_wp2_with fail
          go_returns
          exact ⟨by rw [show mayB a0 m0 a1 m1 a2 m2 a3 m3 a4 m4 = false from may_no (by omega)]; rfl, bel.out.alloc bel.out.size _⟩
    | 2, _ =>
      have c0 := G.out.cell 4 rfl
      have c1 := G.out.cell 5 rfl
      by_cases h1 : a2 < 0
      · go_wp2_with fail
        go_returns
        exact ⟨by rw [show mayB a0 m0 a1 m1 a2 m2 a3 m3 a4 m4 = false from may_no (by omega)]; rfl, bel.out.alloc bel.out.size _⟩
      · have h1' : 0 ≤ a2 := by omega
        by_cases h2 : a2 ≤ m2
        · go_wp2_with fail
          exact ⟨⟨3, by omega, by go_num, fun _ => (by first | exact ok0 (by omega) | exact ⟨h1', h2⟩ | omega), fun _ => (by first | exact ok1 (by omega) | exact ⟨h1', h2⟩ | omega), fun _ => (by first | exact ok2 (by omega) | exact ⟨h1', h2⟩ | omega), fun _ => (by first | exact ok3 (by omega) | exact ⟨h1', h2⟩ | omega), fun _ => (by first | exact ok4 (by omega) | exact ⟨h1', h2⟩ | omega), Lib.hid (G.out.alloc _), Lib.hid (bel.out.alloc bel.out.size _)⟩, by decide⟩
        · have h2' : m2 < a2 := by omega
          go_wp2_with fail
          go_returns
          exact ⟨by rw [show mayB a0 m0 a1 m1 a2 m2 a3 m3 a4 m4 = false from may_no (by omega)]; rfl, bel.out.alloc bel.out.size _⟩
    | 3, _ =>
      have c0 := G.out.cell 6 rfl
      have c1 := G.out.cell 7 rfl
      by_cases h1 : a3 < 0
      · go_wp2_with fail
        go_returns
        exact ⟨by rw [show mayB a0 m0 a1 m1 a2 m2 a3 m3 a4 m4 = false from may_no (by omega)]; rfl, bel.out.alloc bel.out.size _⟩
      · have h1' : 0 ≤ a3 := by omega
        by_cases h2 : a3 ≤ m3
        · go_wp2_with fail
          exact ⟨⟨4, by omega, by go_num, fun _ => (by first | exact ok0 (by omega) | exact ⟨h1', h2⟩ | omega), fun _ => (by first | exact ok1 (by omega) | exact ⟨h1', h2⟩ | omega), fun _ => (by first | exact ok2 (by omega) | exact ⟨h1', h2⟩ | omega), fun _ => (by first | exact ok3 (by omega) | exact ⟨h1', h2⟩ | omega), fun _ => (by first | exact ok4 (by omega) | exact ⟨h1', h2⟩ | omega), Lib.hid (G.out.alloc _), Lib.hid (bel.out.alloc bel.out.size _)⟩, by decide⟩
        · have h2' : m3 < a3 := by omega
          go_wp2_with fail
          go_returns
          exact ⟨by rw [show mayB a0 m0 a1 m1 a2 m2 a3 m3 a4 m4 = false from may_no (by omega)]; rfl, bel.out.alloc bel.out.size _⟩
    | 4, _ =>
      have c0 := G.out.cell 8 rfl
      have c1 := G.out.cell 9 rfl
      by_cases h1 : a4 < 0
      · go_wp2_with fail
        go_returns
        exact ⟨by rw [show mayB a0 m0 a1 m1 a2 m2 a3 m3 a4 m4 = false from may_no (by omega)]; rfl, bel.out.alloc bel.out.size _⟩
      · have h1' : 0 ≤ a4 := by omega
        by_cases h2 : a4 ≤ m4
        · go_wp2_with fail
          exact ⟨⟨5, by omega, by go_num, fun _ => (by first | exact ok0 (by omega) | exact ⟨h1', h2⟩ | omega), fun _ => (by first | exact ok1 (by omega) | exact ⟨h1', h2⟩ | omega), fun _ => (by first | exact ok2 (by omega) | exact ⟨h1', h2⟩ | omega), fun _ => (by first | exact ok3 (by omega) | exact ⟨h1', h2⟩ | omega), fun _ => (by first | exact ok4 (by omega) | exact ⟨h1', h2⟩ | omega), Lib.hid (G.out.alloc _), Lib.hid (bel.out.alloc bel.out.size _)⟩, by decide⟩
        · have h2' : m4 < a4 := by omega
          go_wp2_with fail
          go_returns
          exact ⟨by rw [show mayB a0 m0 a1 m1 a2 m2 a3 m3 a4 m4 = false from may_no (by omega)]; rfl, bel.out.alloc bel.out.size _⟩
    | 5, _ =>
      go_wp2_with fail
      go_returns
      exact ⟨by rw [show mayB a0 m0 a1 m1 a2 m2 a3 m3 a4 m4 = true from may_yes ⟨ok0 (by omega), ok1 (by omega), ok2 (by omega), ok3 (by omega), ok4 (by omega)⟩]; rfl, bel.out⟩

/-- May a header be? -/
def headE (a b c d e : Int) : Int := if mayB a 65535 b 65535 c 58112 d 255 e 65535 then 0 else 2

set_option maxRecDepth 100000 in
set_option maxHeartbeats 400000 in
theorem hcheck_is (a b c d e : Int) (w : World) : Calls Try.prog 15 #[headV a b c d e] w fun r w' => r = .returned (.int .i64 (headE a b c d e)) ∧ Below w.heap.size w w' := by
  go_enter Try.func15, Try.ntmps15
  go_wp2_with fail
  have hG := Blk.new (w.alloc (.cells (headC a b c d e).toArray THead)) [.int .i64 a, .int .i64 65535, .int .i64 b, .int .i64 65535, .int .i64 c, .int .i64 58112, .int .i64 d, .int .i64 255, .int .i64 e, .int .i64 65535] 57
  rw [World.size_alloc] at hG
  refine (within_is (w.heap.size + 1) 57 a 65535 b 65535 c 58112 d 255 e 65535 _ hG).mono ?_
  rintro r w1 ⟨rfl, q1⟩
  have b1 : Hid (Below w.heap.size w w1) := Lib.hid ((((Below.refl _ _).alloc (Nat.le_refl _) _).alloc (by simp) _).trans (q1.mono (by simp; omega)))
  clear hG q1
  cases hm : mayB a 65535 b 65535 c 58112 d 255 e 65535 with
  | true =>
    have HE : Hid (headE a b c d e = 0) := Lib.hid (by unfold headE; rw [if_pos hm])
    go_wp2_with fail
    go_returns
    exact ⟨by rw [HE.out]; rfl, b1.out⟩
  | false =>
    have HE : Hid (headE a b c d e = 2) := Lib.hid (by unfold headE; rw [hm]; rfl)
    go_wp2_with fail
    go_returns
    exact ⟨by rw [HE.out]; rfl, b1.out⟩

end Go.Proofs.Ytdipbdoekmcgbaa
