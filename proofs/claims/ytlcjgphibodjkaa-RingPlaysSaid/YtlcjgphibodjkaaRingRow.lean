/-
  RingRow: the walk.
-/
import Derived.Test.YtlcjgphibodjkaaRingWorks
import Derived.Test.YtlcjgphibodjkaaBools
import Derived.Test.YtlcjgphibodjkaaBytes
namespace Go.Proofs.Ytlcjgphibodjkaa
open Go.RowKit

def nmL (k : Nat) : List UInt8 := [110, UInt8.ofNat (k / 16), UInt8.ofNat (k % 16)]
def nm (k : Nat) : ByteArray := ⟨(nmL k).toArray⟩

set_option maxRecDepth 100000 in
set_option maxHeartbeats 400000 in
theorem name_is (k : Nat) (w : World) (hk : k < 256) : Calls Try.prog 14 #[.int .i64 k] w fun e w' => e = .returned (.string (nm k)) ∧ Below w.heap.size w w' := by
  have hcv : ∀ (w : World) (a b c : Int), (convert 51 9 (.slice (some ⟨w.heap.size, 0, none⟩) 3 3)).run Try.prog (w.alloc (.cells #[.int .u8 a, .int .u8 b, .int .u8 c] 5)) = .ok (.string ⟨#[UInt8.ofNat a.toNat, UInt8.ofNat b.toNat, UInt8.ofNat c.toNat]⟩) (w.alloc (.cells #[.int .u8 a, .int .u8 b, .int .u8 c] 5)) := fun w a b c => conv_list w [a, b, c] 3
  go_enter Try.func14, Try.ntmps14
  go_wp2
  go_returns
  exact ⟨rfl, (Below.refl _ _).alloc (Nat.le_refl _) _⟩

/-- The names of a, a + 1, .., n of them. -/
def nms (a n : Nat) : List Value := (List.range n).map (fun j => .string (nm (a + j)))
theorem nms_length (a n : Nat) : (nms a n).length = n := by simp [nms]
theorem nms_snoc (a n : Nat) : nms a n ++ [.string (nm (a + n))] = nms a (n + 1) := by simp [nms, List.range_succ]
theorem nms_cons (a n : Nat) (h : 0 < n) : nms a n = .string (nm a) :: nms (a + 1) (n - 1) := by
  obtain ⟨m, rfl⟩ : ∃ m, n = m + 1 := ⟨n - 1, by omega⟩
  simp only [nms, List.range_succ_eq_map, List.map_cons, List.map_map, Nat.add_zero, Nat.add_sub_cancel]
  congr 1
  apply List.map_congr_left
  intro j _
  show Value.string _ = Value.string _
  rw [show a + (j + 1) = a + 1 + j by omega]
theorem RsIn.below {w0 w w' : World} {r room : Nat} {xs : List Value} (h : RsIn w0 w r room xs) (k : Below w.heap.size w w') : RsIn w0 w' r room xs := by
  obtain ⟨B, v, hv⟩ := h.ex
  have kw := Wrote.ofBelow k (fun _ => False)
  exact ⟨⟨B, v, hv.S.kept kw (fun h => h), hv.q.kept kw (fun _ _ h => h), hv.one, hv.lt, Nat.le_trans hv.hB kw.size⟩, Wrote.below h.bel kw (fun _ h => h.elim), h.le⟩
theorem wtake_none (w0 : World) (r room : Nat) (w : World) (h : Hid (RsIn w0 w r room [])) :
    Calls Try.prog 15 #[.pointer (some ⟨r, 0, none⟩)] w fun e w' => e = .returned (.tuple #[.string ByteArray.empty, .bool false]) ∧ w = w' := by
  obtain ⟨B, v, hv⟩ := h.out.ex
  exact ringS.take_none r B room v w hv
theorem wlenI (w0 : World) (r room : Nat) (xs : List Value) (c : Int) (w : World) (h : Hid (RsIn w0 w r room xs)) (hc : (xs.length : Int) = c) :
    Calls Try.prog 16 #[.pointer (some ⟨r, 0, none⟩)] w fun e w' => e = .returned (.int .i64 c) ∧ w = w' := by
  subst hc
  exact wlen w0 r room xs w h

set_option maxRecDepth 100000 in
set_option maxHeartbeats 400000 in
theorem ringRow_walk (m : Int) (hm : 0 ≤ m ∧ m ≤ 255) (a : Option Addr) (len cap : Nat) (w : World) (hr : IsBools w a len) :
    Calls Try.prog 3 #[.int .u8 m, .slice a len cap] w fun e w' => e = .returned (.bool true) ∧ Below w.heap.size w w' := by
  obtain ⟨n, hn, hn1, hn2⟩ : ∃ n : Nat, 1 + m % 20 = n ∧ 1 ≤ n ∧ n ≤ 20 := ⟨(1 + m % 20).toNat, by omega⟩
  go_enter Try.func3, Try.ntmps3
  go_wp2_with fail
  refine (ringS.new n _ hn1 (by omega)).mono ?_
  rintro e w1 ⟨rfl, q1, s1⟩
  have h1 : Hid (RsIn w w1 w.heap.size n []) := Lib.hid ⟨⟨_, _, s1⟩, q1, Nat.le_refl _⟩
  have HR := Lib.hid hr
  clear q1 s1 hn hr
  go_wp2_with fail
  go_loopw [7, 8, 9] (fun p t i wr => ∃ pn tn k : Nat, p = .int .i64 pn ∧ t = .int .i64 tn ∧ i = .int .i64 k ∧ tn ≤ pn ∧ pn ≤ k ∧ k ≤ 200 ∧ pn - tn ≤ n ∧ Hid (RsIn w wr w.heap.size n (nms tn (pn - tn)))) (fun _ _ i _ => (200 - intOf i).toNat)
  case atStart => exact ⟨0, 0, 0, rfl, rfl, rfl, by omega, by omega, by omega, by omega, h1⟩
  case round =>
    obtain ⟨pn, tn, k, rfl, rfl, rfl, ht, hp, hk, hd, hI⟩ := hrel
    clear h1
    by_cases hlt : k < len
    · by_cases hlt2 : k < 200
      · obtain ⟨b, off, x, rfl, hb, hx⟩ := HR.out.at hlt
        have hx' := (hI.out.bel.cell (p := ⟨b, off + k, none⟩) hb).trans hx
        cases x with
        | true =>
          go_wp2_with fail
          refine (name_is pn _ (by omega)).mono ?_
          rintro e w2 ⟨rfl, q2⟩
          have hI2 := Lib.hid (hI.out.below q2)
          by_cases hf : pn - tn < n
          · go_wp2_with fail
            refine (wput w _ n _ _ _ hI2 (by rw [nms_length]; exact hf) (by omega)).mono ?_
            rintro e w3 ⟨rfl, h3⟩
            have h3' : Hid (RsIn w w3 w.heap.size n (nms tn (pn + 1 - tn))) := Lib.hid (by
              have := h3.out
              have e1 : pn = tn + (pn - tn) := by omega
              rw [show nm pn = nm (tn + (pn - tn)) by rw [← e1], nms_snoc, show pn - tn + 1 = pn + 1 - tn by omega] at this
              exact this)
            have hd2 : (pn : Int) - tn < n := by omega
            clear h3
            have hd3 : (pn : Int) + 1 - tn ≤ n := by omega
            go_wp2_with fail
            refine (wlenI w _ n _ (pn + 1 - tn) _ h3' (by rw [nms_length]; omega)).mono ?_
            rintro e _ ⟨rfl, rfl⟩
            go_wp2_with fail
            refine (wlenI w _ n _ (pn + 1 - tn) _ h3' (by rw [nms_length]; omega)).mono ?_
            rintro e _ ⟨rfl, rfl⟩
            go_wp2_with fail
            exact ⟨⟨pn + 1, tn, k + 1, by go_num, rfl, by go_num, by omega, by omega, by omega, by omega, h3'⟩, by simp [intOf]; omega⟩
          · have hd2 : (n : Int) ≤ (pn : Int) - tn := by omega
            have hd3 : (pn : Int) - tn ≤ n := by omega
            go_wp2_with fail
            refine (wput_full w _ n _ _ _ hI2 (by rw [nms_length]; omega)).mono ?_
            rintro e w3 ⟨rfl, h3⟩
            go_wp2_with fail
            refine (wlenI w _ n _ (pn - tn) _ h3 (by rw [nms_length]; omega)).mono ?_
            rintro e _ ⟨rfl, rfl⟩
            go_wp2_with fail
            refine (wlenI w _ n _ (pn - tn) _ h3 (by rw [nms_length]; omega)).mono ?_
            rintro e _ ⟨rfl, rfl⟩
            go_wp2_with fail
            exact ⟨⟨pn, tn, k + 1, rfl, rfl, by go_num, by omega, by omega, by omega, by omega, h3⟩, by simp [intOf]; omega⟩
        | false =>
          have hd3 : (pn : Int) - tn ≤ n := by omega
          by_cases hf : tn < pn
          · have hd2 : (tn : Int) < pn := by omega
            have hd4 : (pn : Int) - (tn + 1) ≤ n := by omega
            have hI2 : Hid (RsIn w wr w.heap.size n (.string (nm tn) :: nms (tn + 1) (pn - tn - 1))) := Lib.hid (by rw [← nms_cons _ _ (by omega)]; exact hI.out)
            go_wp2_with fail
            refine (wtake w _ n _ _ _ hI2).mono ?_
            rintro e w2 ⟨rfl, h2⟩
            go_wp2_with fail
            refine (name_is tn _ (by omega)).mono ?_
            rintro e w3 ⟨rfl, q3⟩
            have h3 : Hid (RsIn w w3 w.heap.size n (nms (tn + 1) (pn - (tn + 1)))) := Lib.hid (by rw [← Nat.sub_sub]; exact h2.out.below q3)
            go_wp2_with fail
            refine (wlenI w _ n _ (pn - (tn + 1)) _ h3 (by rw [nms_length]; omega)).mono ?_
            rintro e _ ⟨rfl, rfl⟩
            go_wp2_with fail
            refine (wlenI w _ n _ (pn - (tn + 1)) _ h3 (by rw [nms_length]; omega)).mono ?_
            rintro e _ ⟨rfl, rfl⟩
            go_wp2_with fail
            exact ⟨⟨pn, tn + 1, k + 1, rfl, by go_num, by go_num, by omega, by omega, by omega, by omega, h3⟩, by simp [intOf]; omega⟩
          · obtain rfl : tn = pn := by omega
            have hI2 : Hid (RsIn w wr w.heap.size n []) := Lib.hid (by have := hI.out; rw [Nat.sub_self] at this; exact this)
            go_wp2_with fail
            refine (wtake_none w _ n _ hI2).mono ?_
            rintro e _ ⟨rfl, rfl⟩
            go_wp2_with fail
            refine (wlenI w _ n _ 0 _ hI2 rfl).mono ?_
            rintro e _ ⟨rfl, rfl⟩
            go_wp2_with fail
            refine (wlenI w _ n _ 0 _ hI2 rfl).mono ?_
            rintro e _ ⟨rfl, rfl⟩
            go_wp2_with fail
            exact ⟨⟨tn, tn, k + 1, rfl, rfl, by go_num, by omega, by omega, by omega, by omega, hI⟩, by simp [intOf]; omega⟩
      · go_wp2_with fail
        refine (works15 _).mono ?_
        rintro e w9 ⟨rfl, q9⟩
        go_wp2_with fail
        go_returns
        exact ⟨rfl, hI.out.bel.trans (q9.mono hI.out.bel.size)⟩
    · go_wp2_with fail
      refine (works15 _).mono ?_
      rintro e w9 ⟨rfl, q9⟩
      go_wp2_with fail
      go_returns
      exact ⟨rfl, hI.out.bel.trans (q9.mono hI.out.bel.size)⟩

end Go.Proofs.Ytlcjgphibodjkaa
