/-
  aerialref01.Reader, Writer.Text: by contract.
-/
import Derived.Test.YtljdkaajlmcpkaaBits7
import Derived.Laws.AppendOwnNone
namespace Go.Proofs.Ytljdkaajlmcpkaa
open Go.RowKit

def BoolsAt (w : World) (g o : Nat) (l : List Bool) : Prop := ∀ j (h : j < l.length), w.cell? ⟨g, o + j, none⟩ = some (.bool l[j])
theorem BoolsAt.take {w : World} {g o : Nat} {l : List Bool} (h : BoolsAt w g o l) (k : Nat) : BoolsAt w g o (l.take k) := fun j hj => by
  rw [List.length_take] at hj
  rw [List.getElem_take]
  exact h j (by omega)
theorem BoolsAt.drop {w : World} {g o : Nat} {l : List Bool} (h : BoolsAt w g o l) (k : Nat) : BoolsAt w g (o + k) (l.drop k) := fun j hj => by
  rw [List.length_drop] at hj
  rw [List.getElem_drop, Nat.add_assoc]
  exact h (k + j) (by omega)
theorem BoolsAt.other {w : World} {g o : Nat} {l : List Bool} (h : BoolsAt w g o l) {b : Nat} (hb : b ≠ g) (k : Nat) (v : Value) : BoolsAt (w.setCell ⟨b, k, none⟩ v) g o l := fun j hj => by
  rw [World.cell?_setCell_other _ _ _ _ (fun e => by injection e with e; exact hb e)]
  exact h j hj
theorem BoolsAt.below {w w' : World} {B g o : Nat} {l : List Bool} (h : BoolsAt w g o l) (k : Below B w w') (hB : g < B) : BoolsAt w' g o l := fun j hj => (k.cell (p := ⟨g, o + j, none⟩) hB).trans (h j hj)
theorem Row.bools {w : World} {B g n cap : Nat} {l : List Bool} (h : Row 4 w B (.slice (some ⟨g, 0, none⟩) n cap) (boolV l)) : BoolsAt w g 0 l := fun j hj => by
  rw [Nat.zero_add, h.cell j (by rw [boolV_length]; exact hj), boolV, List.getElem?_map, List.getElem?_eq_getElem hj]
  rfl
theorem take_succ_bool (l : List Bool) (j : Nat) (h : j < l.length) : l.take (j + 1) = l.take j ++ [l[j]] := by
  rw [List.take_succ_eq_append_getElem h]
set_option maxRecDepth 100000 in
set_option maxHeartbeats 400000 in
theorem number_is (g o n cap : Nat) (l : List Bool) (hn : l.length = n) (hl : n ≤ 64) (w : World) (h : BoolsAt w g o l) : Calls Try.prog 37 #[.slice (some ⟨g, o, none⟩) n cap] w fun e w' => e = .returned (.int .u64 (valL l)) ∧ w = w' := by
  go_enter Try.func37, Try.ntmps37
  go_wp2_with fail
  go_loopw [3, 4] (fun v i wr => ∃ j : Nat, j ≤ n ∧ i = .int .i64 j ∧ v = .int .u64 (valL (l.take j)) ∧ wr = w) (fun _ i _ => n - (intOf i).toNat)
  case atStart => exact ⟨0, by omega, rfl, rfl, rfl⟩
  case round =>
    obtain ⟨j, hj, rfl, rfl, rfl⟩ := hrel
    by_cases hlt : j < n
    · have hlt2 : (j : Int) < n := by omega
      have hjl : j < l.length := by omega
      have hc := h j hjl
      have hv := valL_lt (l.take j)
      have h63 : 2 ^ (l.take j).length ≤ 2 ^ 63 := Nat.pow_le_pow_right (by omega) (by rw [List.length_take]; omega)
      have hs := take_succ_bool l j hjl
      have hvs := valL_snoc (l.take j) l[j]
      rw [← hs] at hvs
      obtain ⟨V, hV⟩ : ∃ V, valL (l.take j) = V := ⟨_, rfl⟩
      rw [hV] at hvs hv ⊢
      have hw1 : IntKind.u64.wrap (2 * (V : Int)) = 2 * V := by rw [IntKind.wrap_u64]; omega
      have hw2 : IntKind.u64.wrap (2 * (V : Int) + 1) = 2 * V + 1 := by rw [IntKind.wrap_u64]; omega
      have HVS := Lib.hid hvs
      clear hv h63 hs hV hvs
      cases hb : l[j] with
      | true =>
        rw [hb] at hc HVS
        go_wp2_with fail
        exact ⟨⟨j + 1, by omega, by go_num, by rw [HVS.out]; rfl, trivial⟩, by simp [intOf]; omega⟩
      | false =>
        rw [hb] at hc HVS
        go_wp2_with fail
        exact ⟨⟨j + 1, by omega, by go_num, by rw [HVS.out]; rfl, trivial⟩, by simp [intOf]; omega⟩
    · obtain rfl : j = n := by omega
      go_wp2_with fail
      go_returns
      exact ⟨by rw [List.take_of_length_le (by omega)]; rfl, rfl⟩

abbrev TRR : Nat := 70
/-- A reader of the document's: the bits that are left. -/
structure RdR (B : Nat) (w : World) (r : Nat) (l : List Bool) : Prop where
  ex : ∃ a c, Blk w r [.slice a l.length c] TRR ∧ (0 < l.length → ∃ g o, a = some ⟨g, o, none⟩ ∧ l.length ≤ c ∧ c ≤ maxLen ∧ g ≠ r ∧ g < w.heap.size ∧ BoolsAt w g o l ∧ B ≤ g)
theorem RdR.kept {B : Nat} {w w' : World} {r : Nat} {l : List Bool} (h : RdR B w r l) (k : Below w.heap.size w w') : RdR B w' r l := by
  obtain ⟨a, c, hS, hb⟩ := h.ex
  refine ⟨a, c, hS.below k hS.lt, fun hl => ?_⟩
  obtain ⟨g, o, h1, h2, h3, h4, h5, h6, h7⟩ := hb hl
  exact ⟨g, o, h1, h2, h3, h4, Nat.lt_of_lt_of_le h5 k.size, h6.below k h5, h7⟩
set_option maxRecDepth 100000 in
set_option maxHeartbeats 400000 in
theorem rrTake_arg (r : Nat) (k : Int) (w : World) (hk : k < 1 ∨ 64 < k) : Calls Try.prog 34 #[.pointer (some ⟨r, 0, none⟩), .int .i64 k] w fun e w' => e = .returned (.tuple #[.int .u64 0, .int .i64 2]) ∧ Below w.heap.size w w' := by
  rcases hk with hk | hk
  · go_enter Try.func34, Try.ntmps34
    go_wp2_with fail
    go_returns
    exact ⟨rfl, Below.refl _ _⟩
  · have hk2 : ¬ k < 1 := by omega
    go_enter Try.func34, Try.ntmps34
    go_wp2_with fail
    go_returns
    exact ⟨rfl, Below.refl _ _⟩
set_option maxRecDepth 100000 in
set_option maxHeartbeats 400000 in
theorem rrTake_space {B : Nat} (r : Nat) (l : List Bool) (w : World) (h : RdR B w r l) (k : Int) (h1 : 1 ≤ k) (h2 : k ≤ 64) (h3 : (l.length : Int) < k) : Calls Try.prog 34 #[.pointer (some ⟨r, 0, none⟩), .int .i64 k] w fun e w' => e = .returned (.tuple #[.int .u64 0, .int .i64 12]) ∧ Below w.heap.size w w' := by
  obtain ⟨a, c, hS, -⟩ := h.ex
  have c0 := hS.cell 0 rfl
  clear h hS
  go_enter Try.func34, Try.ntmps34
  go_wp2_with fail
  go_returns
  exact ⟨rfl, Below.refl _ _⟩
set_option maxRecDepth 100000 in
set_option maxHeartbeats 400000 in
theorem rrTake_is {B : Nat} (r : Nat) (l : List Bool) (w : World) (h : RdR B w r l) (k : Nat) (h1 : 1 ≤ k) (h2 : k ≤ 64) (h3 : k ≤ l.length) : Calls Try.prog 34 #[.pointer (some ⟨r, 0, none⟩), .int .i64 k] w fun e w' => e = .returned (.tuple #[.int .u64 (valL (l.take k)), .int .i64 0]) ∧ Wrote (fun b => b = r) w w' ∧ RdR B w' r (l.drop k) := by
  obtain ⟨a, c, hS, hb⟩ := h.ex
  obtain ⟨g, o, rfl, hc1, hc2, hgr, hg, hB, hBg⟩ := hb (by omega)
  have c0 := hS.cell 0 rfl
  have f0 := hS.free 0
  have HS := Lib.hid hS
  have HB := Lib.hid hB
  have hN := fun c => number_is g o k c (l.take k) (by rw [List.length_take]; omega) h2 w (hB.take k)
  have h1' : (1 : Int) ≤ k := by omega
  have h2' : (k : Int) ≤ 64 := by omega
  have h3' : (k : Int) ≤ l.length := by omega
  have h4' : (k : Int) ≤ c := by omega
  have hdl : (l.drop k).length = l.length - k := List.length_drop
  unfold maxLen at hc2
  clear h hS hb hB
  by_cases hkc : c = k
  · have hlk : l.length = k := by omega
    subst hkc
    go_enter Try.func34, Try.ntmps34
    go_wp2_with fail
    refine (hN _).mono ?_
    rintro e _ ⟨rfl, rfl⟩
    go_wp2_with fail
    go_returns
    refine ⟨rfl, Wrote.set _ w r 0 _ rfl, ⟨some ⟨g, o, none⟩, 0, ?_, fun hp => by omega⟩⟩
    rw [hdl, hlk, Nat.sub_self]
    exact HS.out.set 0 _
  · have hkc2 : c - k ≠ 0 := by omega
    go_enter Try.func34, Try.ntmps34
    go_wp2_with fail
    refine (hN _).mono ?_
    rintro e _ ⟨rfl, rfl⟩
    go_wp2_with fail
    go_returns
    refine ⟨rfl, Wrote.set _ w r 0 _ rfl, ⟨some ⟨g, o + k, none⟩, c - k, ?_, fun hp => ⟨g, o + k, rfl, by omega, by unfold maxLen; omega, hgr, by simpa using hg, (HB.out.drop k).other (fun e => hgr e.symm) _ _, hBg⟩⟩⟩
    rw [hdl]
    exact HS.out.set 0 _

end Go.Proofs.Ytljdkaajlmcpkaa
