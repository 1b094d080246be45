/-
  aeriallaw04: sum, times, up, works.
-/
import Derived.Test.YtbdlkkbjkbjanaaSums3
namespace Go.Proofs.Ytbdlkkbjkbjanaa
open Go.RowKit

abbrev TCnt : Nat := 43
/-- A slice just built. -/
theorem SRow.made (w : World) (xs : List Int) (T : TypeId) (hm : xs.length ≤ maxLen) (hwf : ∀ x ∈ xs, -9223372036854775808 ≤ x ∧ x ≤ 9223372036854775807) :
    SRow (w.alloc (.cells (xs.map (Value.int .i64)).toArray T)) (some ⟨w.heap.size, 0, none⟩) xs.length xs := by
  refine ⟨rfl, hm, hwf, fun j hj => ⟨w.heap.size, 0, rfl, fun i hi => ?_⟩⟩
  rw [Nat.zero_add]
  refine (Blk.new w (xs.map (Value.int .i64)) T).cell i ?_
  rw [List.getElem?_map, List.getD_eq_getElem?_getD, List.getElem?_eq_getElem hi]
  rfl
theorem SRow.none (w : World) : SRow w none 0 [] := ⟨rfl, by decide, fun x hx => (by cases hx), fun j hj => (by omega)⟩

/-- A counter that was made behind w0. -/
structure CntIn (w0 w : World) (b : Nat) (c : Int) : Prop where
  B : Blk w b [.int .u64 c] TCnt
  bel : Below w0.heap.size w0 w
  le : w0.heap.size ≤ b
  c1 : 0 ≤ c
  c2 : c ≤ 9223372036854775807
theorem CntIn.then {w0 w w' : World} {b : Nat} {c : Int} (h : CntIn w0 w b c) (k : Wrote (fun _ => False) w w') : CntIn w0 w' b c :=
  ⟨h.B.kept k (fun h => h), Wrote.below h.bel k (fun _ hi => hi.elim), h.le, h.c1, h.c2⟩
theorem CntIn.made (w0 w : World) (h : Below w0.heap.size w0 w) : CntIn w0 (w.alloc (.cells #[.int .u64 0] TCnt)) w.heap.size 0 :=
  ⟨Blk.new w [.int .u64 0] TCnt, h.alloc h.size _, h.size, by omega, by omega⟩
theorem ycadd (w0 : World) (b : Nat) (c n c' : Int) (w : World) (h : Hid (CntIn w0 w b c)) (h3 : 0 ≤ n) (h4 : n ≤ 18446744073709551615) (hc : addC c n = c') :
    Calls Try.prog 24 #[.pointer (some ⟨b, 0, none⟩), .int .u64 n] w fun e w' => e = .returned (.tuple #[]) ∧ Hid (CntIn w0 w' b c') := by
  subst hc
  refine (cadd b 0 c n w (h.out.B.cell 0 rfl) (h.out.B.free 0) h.out.c1 h.out.c2 h3 h4).mono ?_
  rintro e _ ⟨rfl, rfl⟩
  have hr := addC_rng ⟨h.out.c1, h.out.c2⟩ h3
  exact ⟨rfl, Lib.hid ⟨h.out.B.set 0 (.int .u64 (addC c n)), (own_set h.out.bel h.out.le).drew, h.out.le, hr.1, hr.2⟩⟩
where
  own_set {w0 w : World} {b o : Nat} {v : Value} (h : Below w0.heap.size w0 w) (hb : w0.heap.size ≤ b) : Below w0.heap.size w0 (w.setCell ⟨b, o, .none⟩ v) :=
    Wrote.below h (Wrote.set (fun k => k = b) w b o v rfl) (fun i hi => by omega)
theorem ycn (w0 : World) (b : Nat) (c : Int) (w : World) (h : Hid (CntIn w0 w b c)) :
    Calls Try.prog 26 #[.pointer (some ⟨b, 0, none⟩)] w fun e w' => e = .returned (.int .u64 c) ∧ w = w' := cn b 0 c w (h.out.B.cell 0 rfl)

set_option maxRecDepth 100000 in
set_option maxHeartbeats 400000 in
theorem hsum (v e : Int) (a : Option Addr) (len cap : Nat) (xs : List Int) (w : World) (h : SRow w a len xs) (hv : sumA xs = (v, e)) :
    Calls Try.prog 35 #[.int .i64 v, .int .i64 e, .slice a len cap] w fun r w' => r = .returned (.bool true) ∧ Wrote (fun _ => False) w w' := by
  have HV := Lib.hid hv
  clear hv
  go_enter Try.func35, Try.ntmps35
  go_wp2_with fail
  refine (csum a len cap xs _ h).mono ?_
  rw [HV.out]
  rintro r w2 ⟨rfl, hb⟩
  go_wp2
  go_returns
  exact ⟨by simp, by rw [hb]; exact Wrote.refl _ _⟩

set_option maxRecDepth 100000 in
set_option maxHeartbeats 400000 in
theorem htimes (v e : Int) (a : Option Addr) (len cap : Nat) (xs : List Int) (w : World) (h : SRow w a len xs) (hv : timesA xs = (v, e)) :
    Calls Try.prog 36 #[.int .i64 v, .int .i64 e, .slice a len cap] w fun r w' => r = .returned (.bool true) ∧ Wrote (fun _ => False) w w' := by
  have HV := Lib.hid hv
  clear hv
  go_enter Try.func36, Try.ntmps36
  go_wp2_with fail
  refine (ctimes a len cap xs _ h).mono ?_
  rw [HV.out]
  rintro r w2 ⟨rfl, hb⟩
  go_wp2
  go_returns
  exact ⟨by simp, hb⟩

set_option maxRecDepth 100000 in
set_option maxHeartbeats 400000 in
theorem hup (v e a b : Int) (w : World) (h1 : -9223372036854775808 ≤ a) (h2 : a ≤ 9223372036854775807) (h3 : -9223372036854775808 ≤ b) (h4 : b ≤ 9223372036854775807) (hv : upA a b = (v, e)) :
    Calls Try.prog 37 #[.int .i64 v, .int .i64 e, .int .i64 a, .int .i64 b] w fun r w' => r = .returned (.bool true) ∧ w = w' := by
  have HV := Lib.hid hv
  clear hv
  go_enter Try.func37, Try.ntmps37
  go_wp2_with fail
  refine (cup a b _ h1 h2 h3 h4).mono ?_
  rw [HV.out]
  rintro r _ ⟨rfl, rfl⟩
  go_wp2
  go_returns
  exact ⟨by simp, rfl⟩

theorem zeroC (w : World) : (zeroValue TCnt).run Try.prog w = .ok (.agg #[.int .u64 0]) w := by kernel_rfl

set_option maxRecDepth 100000 in
set_option maxHeartbeats 400000 in
theorem works04 (w : World) : Calls Try.prog 27 #[] w fun e w' => e = .returned (.bool true) ∧ Below w.heap.size w w' := by
  have hz := zeroC
  go_enter Try.func27, Try.ntmps27
  have ha := Lib.hid (CntIn.made w w (Below.refl _ _))
  go_wp2_with fail
  refine (ycadd w w.heap.size 0 5 5 _ ha (by decide) (by decide) (by decide)).mono ?_
  rintro e wb ⟨rfl, hb⟩
  go_wp2_with fail
  refine (ycn w w.heap.size 5 _ hb).mono ?_
  rintro e _ ⟨rfl, rfl⟩
  go_wp2_with fail
  refine (ycadd w w.heap.size 5 18446744073709551615 9223372036854775807 _ hb (by decide) (by decide) (by decide)).mono ?_
  rintro e w0 ⟨rfl, h0⟩
  clear ha hb
  go_wp2_with fail
  refine (ycn w w.heap.size 9223372036854775807 _ h0).mono ?_
  rintro e _ ⟨rfl, rfl⟩
  go_wp2_with fail
  refine (hsum 6 0 _ 3 _ [1, 2, 3] _ (SRow.made _ [1, 2, 3] 3 (by decide) (by decide)) (by decide +kernel)).mono ?_
  rintro r w1 ⟨rfl, q1⟩
  have h1 := Lib.hid ((h0.out.then (Wrote.alloc _ _ _)).then q1)
  clear h0 q1
  go_wp2_with fail
  refine (hsum 0 14 _ 2 _ [9223372036854775807, 1] _ (SRow.made _ [9223372036854775807, 1] 3 (by decide) (by decide)) (by decide +kernel)).mono ?_
  rintro r w2 ⟨rfl, q2⟩
  have h2 := Lib.hid ((h1.out.then (Wrote.alloc _ _ _)).then q2)
  clear h1 q2
  go_wp2_with fail
  refine (hsum 0 2 _ 2 _ [1, -1] _ (SRow.made _ [1, -1] 3 (by decide) (by decide)) (by decide +kernel)).mono ?_
  rintro r w3 ⟨rfl, q3⟩
  have h3 := Lib.hid ((h2.out.then (Wrote.alloc _ _ _)).then q3)
  clear h2 q3
  go_wp2_with fail
  refine (htimes 12 0 _ 2 _ [3, 4] _ (SRow.made _ [3, 4] 3 (by decide) (by decide)) (by decide +kernel)).mono ?_
  rintro r w4 ⟨rfl, q4⟩
  have h4 := Lib.hid ((h3.out.then (Wrote.alloc _ _ _)).then q4)
  clear h3 q4
  go_wp2_with fail
  refine (htimes 0 14 _ 2 _ [4611686018427387904, 2] _ (SRow.made _ [4611686018427387904, 2] 3 (by decide) (by decide)) (by decide +kernel)).mono ?_
  rintro r w5 ⟨rfl, q5⟩
  have h5 := Lib.hid ((h4.out.then (Wrote.alloc _ _ _)).then q5)
  clear h4 q5
  go_wp2_with fail
  refine (htimes 0 0 _ 3 _ [4611686018427387904, 2, 0] _ (SRow.made _ [4611686018427387904, 2, 0] 3 (by decide) (by decide)) (by decide +kernel)).mono ?_
  rintro r w6 ⟨rfl, q6⟩
  have h6 := Lib.hid ((h5.out.then (Wrote.alloc _ _ _)).then q6)
  clear h5 q6
  go_wp2_with fail
  refine (hup 4 0 7 2 _ (by decide) (by decide) (by decide) (by decide) (by decide +kernel)).mono ?_
  rintro r _ ⟨rfl, rfl⟩
  go_wp2_with fail
  refine (hup 4 0 8 2 _ (by decide) (by decide) (by decide) (by decide) (by decide +kernel)).mono ?_
  rintro r _ ⟨rfl, rfl⟩
  go_wp2_with fail
  refine (hup 0 0 0 5 _ (by decide) (by decide) (by decide) (by decide) (by decide +kernel)).mono ?_
  rintro r _ ⟨rfl, rfl⟩
  go_wp2_with fail
  refine (hup 0 2 1 0 _ (by decide) (by decide) (by decide) (by decide) (by decide +kernel)).mono ?_
  rintro r _ ⟨rfl, rfl⟩
  go_wp2_with fail
  go_returns
  exact ⟨rfl, h6.out.bel⟩

end Go.Proofs.Ytbdlkkbjkbjanaa
