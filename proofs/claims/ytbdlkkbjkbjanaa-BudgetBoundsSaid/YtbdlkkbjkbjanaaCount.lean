/-
  count.Count and aerialref04.Add: each function by its contract.
-/
import Derived.Test.YtbdlkkbjkbjanaaWrote
namespace Go.Proofs.Ytbdlkkbjkbjanaa
open Go.RowKit

/-- A sum that stops at the greatest number. -/
def addC (c n : Int) : Int := if 9223372036854775807 - c < n then 9223372036854775807 else c + n
theorem addC_rng {c n : Int} (hc : 0 ≤ c ∧ c ≤ 9223372036854775807) (hn : 0 ≤ n) : 0 ≤ addC c n ∧ addC c n ≤ 9223372036854775807 := by
  unfold addC
  split <;> omega

set_option maxRecDepth 100000 in
set_option maxHeartbeats 400000 in
theorem radd (c n : Int) (w : World) (h1 : 0 ≤ c) (h2 : c ≤ 9223372036854775807) (h3 : 0 ≤ n) (h4 : n ≤ 18446744073709551615) :
    Calls Try.prog 25 #[.int .u64 c, .int .u64 n] w fun e w' => e = .returned (.int .u64 (addC c n)) ∧ w = w' := by
  by_cases h : 9223372036854775807 - c < n
  all_goals
    go_enter Try.func25, Try.ntmps25
    go_wp2
    go_returns
    refine ⟨?_, rfl⟩
    unfold addC
    first
      | (rw [if_pos h]; rfl)
      | (rw [if_neg (by omega)]; rfl)

set_option maxRecDepth 100000 in
set_option maxHeartbeats 400000 in
theorem cadd (s o : Nat) (c n : Int) (w : World) (hc : w.cell? ⟨s, o, none⟩ = some (.int .u64 c)) (hf : w.frozen? ⟨s, o, none⟩ = false) (h1 : 0 ≤ c) (h2 : c ≤ 9223372036854775807) (h3 : 0 ≤ n) (h4 : n ≤ 18446744073709551615) :
    Calls Try.prog 24 #[.pointer (some ⟨s, o, none⟩), .int .u64 n] w fun e w' => e = .returned (.tuple #[]) ∧ w' = (w.setCell ⟨s, o, none⟩ (.int .u64 (addC c n))).drew := by
  by_cases h : 9223372036854775807 - c < n
  all_goals
    go_enter Try.func24, Try.ntmps24
    go_wp2
    go_region
    go_wp2
    go_returns
    refine ⟨rfl, ?_⟩
    congr 3
    unfold addC
    split <;> omega

set_option maxRecDepth 100000 in
set_option maxHeartbeats 400000 in
theorem cn (s o : Nat) (c : Int) (w : World) (hc : w.cell? ⟨s, o, none⟩ = some (.int .u64 c)) :
    Calls Try.prog 26 #[.pointer (some ⟨s, o, none⟩)] w fun e w' => e = .returned (.int .u64 c) ∧ w = w' := by
  go_enter Try.func26, Try.ntmps26
  go_wp2
  go_returns
  exact ⟨rfl, rfl⟩

end Go.Proofs.Ytbdlkkbjkbjanaa
