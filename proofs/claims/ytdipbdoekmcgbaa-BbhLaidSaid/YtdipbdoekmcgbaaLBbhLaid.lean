/-
  Proved: whatever the input, aerial/aeriallaw13.BbhLaid returns true, and each argument reads afterwards as it read before. Conditions: none.
-/
import Derived.Test.YtdipbdoekmcgbaaBbhLaid
import Derived.Test.YtdipbdoekmcgbaaOpenS
import Derived.ProofKit
import Derived.OpenShut
import Derived.ShutString
import Derived.ChangeOld
namespace Go.Proofs.Ytdipbdoekmcgbaa.bbhLaid
open Go.ChangeShapes Go.WideShapes Go.ChangeAt Go.RowKit
open Go.ChangeMaps (open_string shut_string)

theorem own : ownKnob Try.prog.godebug = none := by kernel_rfl
theorem laidOut : laidOutB Try.prog = true := by kernel_rfl

set_option maxRecDepth 100000 in
theorem lifted (os : Os) (started : os.Started) (H : Type) (enc : TypeId × Value → H) :
    ReturnsInHanded {} Try.checked os 3 .any (Rows.bbhLaidSpec.pre6 enc Try.prog Try.f3 Rows.bbhLaidRow.domain false) (Rows.bbhLaidSpec.post enc Try.prog Try.f3 false true false false) := by
  refine returnsInHanded_of_change (C := Try.checked) own started (by kernel_rfl) Try.func3
    (ChangeSpec.witness6 (enc := enc) (C := Try.checked) false ⟨#[], #[.agg #[.int .i64 0, .int .i64 0, .int .i64 0, .int .i64 0, .int .i64 0]], []⟩ 8 (by kernel_rfl) (by kernel_rfl) (by kernel_rfl) (by kernel_rfl)) ?_
  intro W base args ds gs before hval0 hW hcnd _
  have hval : ∀ (j : Nat) t v, Try.f3.params[j]? = some t → args[j]? = some v → Value.okWide Try.prog W .any base t v := hval0
  have hW' := hW
  obtain ⟨p, q, hA0, hV, rfl, hfz, hnd⟩ := hW
  have hA : DataW.TrodAll enc Try.prog W 0 (fun _ => true) true Try.f3.params.toList args.toList ds p := hA0
  rw [Try.params3] at hA hval
  obtain ⟨v0, vs0, d0, ds0, p0, q0, hargs, rfl, rfl, h0, r0⟩ := trodAll_cons hA
  obtain ⟨rfl, rfl, rfl⟩ := trodAll_nil r0
  obtain rfl : args = #[v0] := by cases args; simp_all
  obtain ⟨rfl, rfl⟩ := trodVars_none hV
  have k0 := h0
  have lt0 : ∀ x ∈ p0, x.block < W.heap.size := by obtain ⟨m, hm⟩ := k0; exact DataW.trod_lt m _ _ _ hm
  obtain ⟨cs0, rfl, sz0⟩ := agg_of_wide Try.underlying23 (hval 0 23 v0 rfl rfl)
  have R0 : Reads W 23 cs0.toList := Reads.of h0
  obtain ⟨a0_0, e0_0, w0_0⟩ := R0.fieldInt Try.underlying23 0 _ rfl Try.underlying3 (by kernel_rfl)
  have b0_0 := bounds_i64 w0_0
  obtain ⟨a0_1, e0_1, w0_1⟩ := R0.fieldInt Try.underlying23 1 _ rfl Try.underlying3 (by kernel_rfl)
  have b0_1 := bounds_i64 w0_1
  obtain ⟨a0_2, e0_2, w0_2⟩ := R0.fieldInt Try.underlying23 2 _ rfl Try.underlying3 (by kernel_rfl)
  have b0_2 := bounds_i64 w0_2
  obtain ⟨a0_3, e0_3, w0_3⟩ := R0.fieldInt Try.underlying23 3 _ rfl Try.underlying3 (by kernel_rfl)
  have b0_3 := bounds_i64 w0_3
  obtain ⟨a0_4, e0_4, w0_4⟩ := R0.fieldInt Try.underlying23 4 _ rfl Try.underlying3 (by kernel_rfl)
  have b0_4 := bounds_i64 w0_4
  have g0 := agg5 (cs := cs0) (by rw [sz0]; kernel_rfl) e0_0 e0_1 e0_2 e0_3 e0_4
  obtain rfl : cs0 = #[.int .i64 a0_0, .int .i64 a0_1, .int .i64 a0_2, .int .i64 a0_3, .int .i64 a0_4] := by injection g0
  clear hA0 hval0
  refine (bbhLaid_walk a0_0 a0_1 a0_2 a0_3 a0_4 W).mono fun e W' ⟨he, bel⟩ => ?_
  subst he
  exact ⟨_, rfl, _, _, _, [], _, [], hW', trodAll_mk1 (shut_bool Try.underlying4 _), (trodAll_cons_mk (Below.trod laidOut (by kernel_rfl) (of_decide_eq_true (by kernel_rfl)) k0 bel lt0) trodAll_mk0), rfl, bel.frame _, fun h => by cases h⟩

theorem over : Rows.bbhLaidRow.holds Try.pinned (OpenSpec.ofChange Rows.bbhLaidSpec) :=
  OpenClaim.holds_of_wide 3 Try.f3 rfl rfl rfl rfl rfl rfl rfl ⟨rfl, rfl, rfl, rfl, rfl⟩ rfl rfl rfl rfl rfl (by kernel_rfl) Try.func3 (by kernel_rfl)
    (of_decide_eq_true (by kernel_rfl)) (by unfold Func.isWrapper; first | (rw [if_pos (by decide +kernel)]; kernel_rfl) | (rw [if_neg (by decide +kernel)]; exact ⟨rfl, rfl⟩))
    (fun os started H enc _ => lifted os started H enc)

theorem proved : Rows.BbhLaidSaid := over
#print axioms proved
end Go.Proofs.Ytdipbdoekmcgbaa.bbhLaid
