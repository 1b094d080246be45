/-
  report.Check, aerialref18.Check: by contract.
-/
import Derived.Test.YtljdkaajlmcpkaaWrote
namespace Go.Proofs.Ytljdkaajlmcpkaa
open Go.RowKit

abbrev TRep : Nat := 52
abbrev repV (t q x : Int) : Value := .agg #[.int .i64 t, .int .u32 q, .int .i64 x]
/-- May a report be? -/
def termE (t : Int) : Int := if 0 ≤ t ∧ t < 8 then 0 else 9
def seqE (q : Int) : Int := if 0 < q then 0 else 2
def esE (x : Int) : Int := if -5000 ≤ x ∧ x ≤ 5000 then 0 else 2
def repE (t q x : Int) : Int := if termE t ≠ 0 then termE t else if seqE q ≠ 0 then seqE q else esE x

theorem repE_term {t q x : Int} (h : ¬ (0 ≤ t ∧ t < 8)) : repE t q x = 9 := by
  have e : termE t = 9 := by
    unfold termE
    rw [if_neg h]
  unfold repE
  rw [e]
  rfl
theorem makeFunc_run (fn : Fn) (first cap : Array Value) (w : World) : (Instr.makeFunc fn first cap).run Try.prog w = .ok (.func fn first cap) w := rfl
set_option maxRecDepth 100000 in
set_option maxHeartbeats 400000 in
theorem unless_is (b : Bool) (e : Int) (w : World) : Calls Try.prog 41 #[.bool b, .int .i64 e] w fun r w' => r = .returned (.int .i64 (if b then 0 else e)) ∧ w = w' := by
  cases b
  all_goals
    go_enter Try.func41, Try.ntmps41
    go_wp2
    go_returns
    exact ⟨rfl, rfl⟩
set_option maxRecDepth 100000 in
set_option maxHeartbeats 400000 in
theorem ask1 (b : Nat) (t q x : Int) (w : World) (h : Blk w b [.int .i64 t, .int .u32 q, .int .i64 x] TRep) :
    Calls Try.prog 40 #[.pointer (some ⟨b, 0, none⟩)] w fun e w' => e = .returned (.int .i64 (termE t)) ∧ w = w' := by
  have c0 := h.cell 0 rfl
  by_cases h1 : 0 ≤ t
  · by_cases h2 : t < 8
    · have HE : Hid (termE t = 0) := Lib.hid (by unfold termE; rw [if_pos ⟨h1, h2⟩])
      go_enter Try.func40, Try.ntmps40
      go_wp2_with fail
      refine (unless_is _ _ _).mono ?_
      rintro e _ ⟨rfl, rfl⟩
      go_wp2
      go_returns
      exact ⟨by rw [HE.out]; rfl, rfl⟩
    · have HE : Hid (termE t = 9) := Lib.hid (by unfold termE; rw [if_neg (by omega)])
      go_enter Try.func40, Try.ntmps40
      go_wp2_with fail
      refine (unless_is _ _ _).mono ?_
      rintro e _ ⟨rfl, rfl⟩
      go_wp2
      go_returns
      exact ⟨by rw [HE.out]; rfl, rfl⟩
  · have HE : Hid (termE t = 9) := Lib.hid (by unfold termE; rw [if_neg (by omega)])
    go_enter Try.func40, Try.ntmps40
    go_wp2_with fail
    refine (unless_is _ _ _).mono ?_
    rintro e _ ⟨rfl, rfl⟩
    go_wp2
    go_returns
    exact ⟨by rw [HE.out]; rfl, rfl⟩
set_option maxRecDepth 100000 in
set_option maxHeartbeats 400000 in
theorem ask2 (b : Nat) (t q x : Int) (w : World) (h : Blk w b [.int .i64 t, .int .u32 q, .int .i64 x] TRep) :
    Calls Try.prog 42 #[.pointer (some ⟨b, 0, none⟩)] w fun e w' => e = .returned (.int .i64 (seqE q)) ∧ w = w' := by
  have c0 := h.cell 1 rfl
  by_cases h1 : 0 < q
  · have HE : Hid (seqE q = 0) := Lib.hid (by unfold seqE; rw [if_pos h1])
    go_enter Try.func42, Try.ntmps42
    go_wp2_with fail
    refine (unless_is _ _ _).mono ?_
    rintro e _ ⟨rfl, rfl⟩
    go_wp2
    go_returns
    exact ⟨by rw [HE.out]; rfl, rfl⟩
  · have HE : Hid (seqE q = 2) := Lib.hid (by unfold seqE; rw [if_neg h1])
    go_enter Try.func42, Try.ntmps42
    go_wp2_with fail
    refine (unless_is _ _ _).mono ?_
    rintro e _ ⟨rfl, rfl⟩
    go_wp2
    go_returns
    exact ⟨by rw [HE.out]; rfl, rfl⟩
set_option maxRecDepth 100000 in
set_option maxHeartbeats 400000 in
theorem ask3 (b : Nat) (t q x : Int) (w : World) (h : Blk w b [.int .i64 t, .int .u32 q, .int .i64 x] TRep) :
    Calls Try.prog 43 #[.pointer (some ⟨b, 0, none⟩)] w fun e w' => e = .returned (.int .i64 (esE x)) ∧ w = w' := by
  have c0 := h.cell 2 rfl
  by_cases h1 : -5000 ≤ x
  · by_cases h2 : x ≤ 5000
    · have HE : Hid (esE x = 0) := Lib.hid (by unfold esE; rw [if_pos ⟨h1, h2⟩])
      go_enter Try.func43, Try.ntmps43
      go_wp2_with fail
      refine (unless_is _ _ _).mono ?_
      rintro e _ ⟨rfl, rfl⟩
      go_wp2
      go_returns
      exact ⟨by rw [HE.out]; rfl, rfl⟩
    · have HE : Hid (esE x = 2) := Lib.hid (by unfold esE; rw [if_neg (by omega)])
      go_enter Try.func43, Try.ntmps43
      go_wp2_with fail
      refine (unless_is _ _ _).mono ?_
      rintro e _ ⟨rfl, rfl⟩
      go_wp2
      go_returns
      exact ⟨by rw [HE.out]; rfl, rfl⟩
  · have HE : Hid (esE x = 2) := Lib.hid (by unfold esE; rw [if_neg (by omega)])
    go_enter Try.func43, Try.ntmps43
    go_wp2_with fail
    refine (unless_is _ _ _).mono ?_
    rintro e _ ⟨rfl, rfl⟩
    go_wp2
    go_returns
    exact ⟨by rw [HE.out]; rfl, rfl⟩

abbrev askV (f : Nat) (b : Nat) : Value := .func (.func f) #[] #[.pointer (some ⟨b, 0, none⟩)]
set_option maxRecDepth 100000 in
set_option maxHeartbeats 400000 in
theorem first_wrong (g b : Nat) (t q x : Int) (w : World) (h : Blk w b [.int .i64 t, .int .u32 q, .int .i64 x] TRep)
    (h0 : w.cell? ⟨g, 0, none⟩ = some (askV 40 b)) (h1 : w.cell? ⟨g, 1, none⟩ = some (askV 42 b)) (h2 : w.cell? ⟨g, 2, none⟩ = some (askV 43 b)) :
    Calls Try.prog 39 #[.slice (some ⟨g, 0, none⟩) 3 3] w fun e w' => e = .returned (.int .i64 (repE t q x)) ∧ w = w' := by
  have HB := Lib.hid h
  clear h
  go_enter Try.func39, Try.ntmps39
  go_wp2_with fail
  go_loop [8] (fun i => ∃ k : Nat, k ≤ 3 ∧ i = .int .i64 k ∧ (0 < k → termE t = 0) ∧ (1 < k → seqE q = 0) ∧ (2 < k → esE x = 0)) (fun i => (3 - intOf i).toNat)
  case atStart => exact ⟨0, by omega, rfl, by omega, by omega, by omega⟩
  case round =>
    obtain ⟨k, hk, rfl, p0, p1, p2⟩ := hrel
    have P0 := Lib.hid p0
    have P1 := Lib.hid p1
    have P2 := Lib.hid p2
    clear p0 p1 p2
    match k, hk with
    | 0, _ =>
      by_cases he : termE t = 0
      · go_wp2_with fail
        refine (ask1 b t q x _ HB.out).mono ?_
        rintro e _ ⟨rfl, rfl⟩
        go_wp2_with fail
        exact ⟨⟨1, by omega, rfl, fun _ => he, by omega, by omega⟩, by decide⟩
      · go_wp2_with fail
        refine (ask1 b t q x _ HB.out).mono ?_
        rintro e _ ⟨rfl, rfl⟩
        go_wp2_with fail
        go_returns
        exact ⟨by rw [repE, if_pos he]; rfl, rfl⟩
    | 1, _ =>
      by_cases he : seqE q = 0
      · go_wp2_with fail
        refine (ask2 b t q x _ HB.out).mono ?_
        rintro e _ ⟨rfl, rfl⟩
        go_wp2_with fail
        exact ⟨⟨2, by omega, rfl, fun _ => P0.out (by omega), fun _ => he, by omega⟩, by decide⟩
      · go_wp2_with fail
        refine (ask2 b t q x _ HB.out).mono ?_
        rintro e _ ⟨rfl, rfl⟩
        go_wp2_with fail
        go_returns
        exact ⟨by rw [repE, if_neg (by rw [P0.out (by omega)]; simp), if_pos he]; rfl, rfl⟩
    | 2, _ =>
      by_cases he : esE x = 0
      · go_wp2_with fail
        refine (ask3 b t q x _ HB.out).mono ?_
        rintro e _ ⟨rfl, rfl⟩
        go_wp2_with fail
        exact ⟨⟨3, by omega, rfl, fun _ => P0.out (by omega), fun _ => P1.out (by omega), fun _ => he⟩, by decide⟩
      · go_wp2_with fail
        refine (ask3 b t q x _ HB.out).mono ?_
        rintro e _ ⟨rfl, rfl⟩
        go_wp2_with fail
        go_returns
        exact ⟨by rw [repE, if_neg (by rw [P0.out (by omega)]; simp), if_neg (by rw [P1.out (by omega)]; simp)]; rfl, rfl⟩
    | 3, _ =>
      go_wp2_with fail
      go_returns
      exact ⟨by rw [repE, if_neg (by rw [P0.out (by omega)]; simp), if_neg (by rw [P1.out (by omega)]; simp), P2.out (by omega)]; rfl, rfl⟩

set_option maxRecDepth 100000 in
set_option maxHeartbeats 400000 in
theorem check_is (t q x : Int) (w : World) : Calls Try.prog 25 #[repV t q x] w fun e w' => e = .returned (.int .i64 (repE t q x)) ∧ Below w.heap.size w w' := by
  have hmf := makeFunc_run
  go_enter Try.func25, Try.ntmps25
  go_wp2_with fail
  have hsz : (w.alloc (Obj.cells #[Value.int IntKind.i64 t, Value.int IntKind.u32 q, Value.int IntKind.i64 x] TRep)).heap.size = w.heap.size + 1 := by simp
  refine (first_wrong (w.heap.size + 1) w.heap.size t q x _ ((Blk.new w [.int .i64 t, .int .u32 q, .int .i64 x] TRep).alloc _) ?_ ?_ ?_).mono ?_
  · rw [← hsz]; exact new_cell _ _ _ 0 _ rfl
  · rw [← hsz]; exact new_cell _ _ _ 1 _ rfl
  · rw [← hsz]; exact new_cell _ _ _ 2 _ rfl
  · rintro e _ ⟨rfl, rfl⟩
    go_wp2
    go_returns
    exact ⟨rfl, ((Below.refl _ _).alloc (Nat.le_refl _) _).alloc (by simp) _⟩
set_option maxRecDepth 100000 in
set_option maxHeartbeats 400000 in
theorem refcheck_is (t q x : Int) (hq : 0 ≤ q) (w : World) : Calls Try.prog 26 #[repV t q x] w fun e w' => e = .returned (.int .i64 (repE t q x)) ∧ Below w.heap.size w w' := by
  have HB : ∀ o, Below w.heap.size w (w.alloc o) := fun o => (Below.refl _ _).alloc (Nat.le_refl _) _
  by_cases h0 : t < 0
  · have HE : Hid (repE t q x = 9) := Lib.hid (repE_term (by omega))
    go_enter Try.func26, Try.ntmps26
    go_wp2
    go_returns
    exact ⟨by rw [HE.out]; rfl, HB _⟩
  by_cases h1 : t < 8
  · have HT : Hid (termE t = 0) := Lib.hid (by unfold termE; rw [if_pos ⟨by omega, h1⟩])
    have h0' : 0 ≤ t := by omega
    clear h0
    by_cases h2 : q = 0
    · subst h2
      have HE : Hid (repE t 0 x = 2) := Lib.hid (by unfold repE; rw [HT.out]; rfl)
      go_enter Try.func26, Try.ntmps26
      go_wp2
      go_returns
      exact ⟨by rw [HE.out]; rfl, HB _⟩
    · have HQ : Hid (seqE q = 0) := Lib.hid (by unfold seqE; rw [if_pos (by omega)])
      have HX : Hid (repE t q x = esE x) := Lib.hid (by unfold repE; rw [HT.out, HQ.out]; rfl)
      by_cases h3 : x < -5000
      · have HE : Hid (repE t q x = 2) := Lib.hid (by rw [HX.out]; unfold esE; rw [if_neg (by omega)])
        go_enter Try.func26, Try.ntmps26
        go_wp2
        go_returns
        exact ⟨by rw [HE.out]; rfl, HB _⟩
      · by_cases h4 : 5000 < x
        · have HE : Hid (repE t q x = 2) := Lib.hid (by rw [HX.out]; unfold esE; rw [if_neg (by omega)])
          go_enter Try.func26, Try.ntmps26
          go_wp2
          go_returns
          exact ⟨by rw [HE.out]; rfl, HB _⟩
        · have HE : Hid (repE t q x = 0) := Lib.hid (by rw [HX.out]; unfold esE; rw [if_pos (by omega)])
          go_enter Try.func26, Try.ntmps26
          go_wp2
          go_returns
          exact ⟨by rw [HE.out]; rfl, HB _⟩
  · have HE : Hid (repE t q x = 9) := Lib.hid (repE_term (by omega))
    go_enter Try.func26, Try.ntmps26
    go_wp2
    go_returns
    exact ⟨by rw [HE.out]; rfl, HB _⟩

end Go.Proofs.Ytljdkaajlmcpkaa
