/-
  CountAdds, CountRises, CountSums: the walks.
-/
import Derived.Test.YtbdlkkbjkbjanaaCountWorks
import Derived.OpenShut
namespace Go.Proofs.Ytbdlkkbjkbjanaa
open Go.RowKit

theorem u64_rng {w : World} {a : Option Addr} {len cap : Nat} {zs : List Int} (h : IsRow .u64 w a len cap zs) {k : Nat} (hk : k < len) : 0 ≤ zs.getD k 0 ∧ zs.getD k 0 ≤ 18446744073709551615 := by
  have hm : zs.getD k 0 ∈ zs := getD_mem (by have := h.len_le.1; omega)
  exact bounds_u64 (h.wf _ hm)

set_option maxRecDepth 100000 in
set_option maxHeartbeats 400000 in
theorem countAdds_walk (a0 : Option Addr) (len0 cap0 : Nat) (z0 : List Int) (w : World) (hr0 : IsRow .u64 w a0 len0 cap0 z0) :
    Calls Try.prog 8 #[.slice a0 len0 cap0] w fun e w' => e = .returned (.bool true) ∧ Below w.heap.size w w' := by
  have hlen := hr0.len_le.2
  unfold maxLen at hlen
  have hz := zeroC
  have ha := Lib.hid (CntIn.made w w (Below.refl _ _))
  obtain ⟨c, hc⟩ : ∃ c, c = w.heap.size := ⟨_, rfl⟩
  go_enter Try.func8, Try.ntmps8
  go_wp2_with fail
  rw [← hc] at ha ⊢
  obtain ⟨wz, hwz⟩ : ∃ wz, wz = w.alloc (.cells #[.int .u64 0] TCnt) := ⟨_, rfl⟩
  rw [← hwz] at ha ⊢
  clear hc hwz hz
  go_loopw [4, 5] (fun n i wr => ∃ (k : Nat) (m : Int), k ≤ len0 ∧ k ≤ 300 ∧ i = .int .i64 k ∧ n = .int .u64 m ∧ Hid (CntIn w wr c m)) (fun _ i _ => 300 - (intOf i).toNat)
  case atStart => exact ⟨0, 0, by omega, by omega, rfl, rfl, ha⟩
  case round =>
    obtain ⟨k, m, hk, hk2, rfl, rfl, hp⟩ := hrel
    clear ha
    by_cases hlt : k < len0
    · by_cases hlt2 : k < 300
      · obtain ⟨b2, off, rfl, hb2, hcl⟩ := hr0.at (j := k) (by omega)
        obtain ⟨hx1, hx2⟩ := u64_rng hr0 hlt
        have hcm := hcl k (by omega)
        generalize z0.getD k 0 = x at hx1 hx2 hcm
        have hcw := (hp.out.bel.cell (p := ⟨b2, off + k, none⟩) hb2).trans hcm
        have HM := Lib.hid hcm
        clear hcl hcm
        go_wp2_with fail
        refine (ycadd w c m x _ _ hp hx1 hx2 rfl).mono ?_
        rintro e w2 ⟨rfl, h2⟩
        have hcw2 := (h2.out.bel.cell (p := ⟨b2, off + k, none⟩) hb2).trans HM.out
        go_wp2_with fail
        refine (radd m x _ hp.out.c1 hp.out.c2 hx1 hx2).mono ?_
        rintro e _ ⟨rfl, rfl⟩
        go_wp2_with fail
        refine (ycn w c _ _ h2).mono ?_
        rintro e _ ⟨rfl, rfl⟩
        go_wp2_with fail
        exact ⟨⟨k + 1, _, by omega, by omega, by go_num, rfl, h2⟩, by simp [intOf]; omega⟩
      · go_wp2_with fail
        refine (works04 _).mono ?_
        rintro e w9 ⟨rfl, q9⟩
        go_wp2_with fail
        go_returns
        exact ⟨rfl, bthen hp.out.bel q9⟩
    · go_wp2_with fail
      refine (works04 _).mono ?_
      rintro e w9 ⟨rfl, q9⟩
      go_wp2_with fail
      go_returns
      exact ⟨rfl, bthen hp.out.bel q9⟩

/-- Int slices that came in, read as a row. -/
theorem IsRow.srow {w : World} {a : Option Addr} {len cap : Nat} {zs : List Int} (h : IsRow .i64 w a len cap zs) (n : Nat) (hn : n ≤ len) : SRow w a n (zs.take n) := by
  have hl := h.len_le
  refine ⟨by rw [List.length_take]; omega, by omega, fun x hx => bounds_i64 (h.wf x (List.mem_of_mem_take hx)), fun j hj => ?_⟩
  obtain ⟨b, off, h1, _, h2⟩ := h.at (j := j) (by omega)
  refine ⟨b, off, h1, fun i hi => ?_⟩
  rw [h2 i (by omega), List.getD_eq_getElem?_getD, List.getD_eq_getElem?_getD, List.getElem?_take_of_lt hi]

theorem SRow.kept {w w' : World} {a : Option Addr} {len : Nat} {xs : List Int} (h : SRow w a len xs) (k : Wrote (fun _ => False) w w') : SRow w' a len xs :=
  ⟨h.hl, h.hm, h.wf, fun j hj => by
    obtain ⟨b, off, h1, h2⟩ := h.rd j hj
    exact ⟨b, off, h1, fun i hi => k.cell (h2 i hi) (fun h => h)⟩⟩

set_option maxRecDepth 100000 in
set_option maxHeartbeats 400000 in
theorem countSums_walk (a0 : Option Addr) (len0 cap0 : Nat) (z0 : List Int) (a b : Int) (w : World) (hr0 : IsRow .i64 w a0 len0 cap0 z0) (h1 : -9223372036854775808 ≤ a) (h2 : a ≤ 9223372036854775807) (h3 : -9223372036854775808 ≤ b) (h4 : b ≤ 9223372036854775807) :
    Calls Try.prog 9 #[.slice a0 len0 cap0, .int .i64 a, .int .i64 b] w fun e w' => e = .returned (.bool true) ∧ Below w.heap.size w w' := by
  have hlen := hr0.len_le.2
  unfold maxLen at hlen
  have hcap : len0 ≤ cap0 := by
    rcases hr0 with ⟨_, rfl, rfl, _⟩ | ⟨_, _, h, _⟩
    · omega
    · exact h
  obtain ⟨r, hr⟩ : ∃ r, r = upA a b := ⟨_, rfl⟩
  by_cases hl : len0 ≤ 300
  · have hs := hr0.srow len0 (Nat.le_refl _)
    obtain ⟨p, hp⟩ : ∃ p, p = sumA (z0.take len0) := ⟨_, rfl⟩
    obtain ⟨q, hq⟩ : ∃ q, q = timesA (z0.take len0) := ⟨_, rfl⟩
    go_enter Try.func9, Try.ntmps9
    go_wp2_with fail
    refine (csum _ _ _ _ _ hs).mono ?_
    rw [← hp]
    rintro e _ ⟨rfl, rfl⟩
    go_wp2_with fail
    refine (rsum _ _ _ _ _ hs).mono ?_
    rw [← hp]
    rintro e _ ⟨rfl, rfl⟩
    go_wp2_with fail
    refine (ctimes _ _ _ _ _ hs).mono ?_
    rw [← hq]
    rintro e w2 ⟨rfl, hb⟩
    have hs2 := hs.kept hb
    go_wp2_with fail
    refine (rtimes _ _ _ _ _ hs2).mono ?_
    rw [← hq]
    rintro e _ ⟨rfl, rfl⟩
    go_wp2_with fail
    refine (cup a b _ h1 h2 h3 h4).mono ?_
    rw [← hr]
    rintro e _ ⟨rfl, rfl⟩
    go_wp2_with fail
    refine (rup a b _ h1 h2 h3 h4).mono ?_
    rw [← hr]
    rintro e _ ⟨rfl, rfl⟩
    go_wp2_with fail
    refine (works04 _).mono ?_
    rintro e w9 ⟨rfl, q9⟩
    go_wp2_with fail
    go_returns
    exact ⟨rfl, (Wrote.below (Below.refl _ _) hb (fun _ hi => hi.elim)).trans (q9.mono hb.size)⟩
  · have hs := hr0.srow 300 (by omega)
    obtain ⟨p, hp⟩ : ∃ p, p = sumA (z0.take 300) := ⟨_, rfl⟩
    obtain ⟨q, hq⟩ : ∃ q, q = timesA (z0.take 300) := ⟨_, rfl⟩
    have hgt : (300 : Int) < len0 := by omega
    have hcap2 : (300 : Int) ≤ cap0 := by omega
    obtain ⟨b2, off, rfl, hb2, -⟩ := hr0.at (j := 0) (by omega)
    go_enter Try.func9, Try.ntmps9
    go_wp2_with fail
    refine (csum _ _ _ _ _ hs).mono ?_
    rw [← hp]
    rintro e _ ⟨rfl, rfl⟩
    go_wp2_with fail
    refine (rsum _ _ _ _ _ hs).mono ?_
    rw [← hp]
    rintro e _ ⟨rfl, rfl⟩
    go_wp2_with fail
    refine (ctimes _ _ _ _ _ hs).mono ?_
    rw [← hq]
    rintro e w2 ⟨rfl, hb⟩
    have hs2 := hs.kept hb
    go_wp2_with fail
    refine (rtimes _ _ _ _ _ hs2).mono ?_
    rw [← hq]
    rintro e _ ⟨rfl, rfl⟩
    go_wp2_with fail
    refine (cup a b _ h1 h2 h3 h4).mono ?_
    rw [← hr]
    rintro e _ ⟨rfl, rfl⟩
    go_wp2_with fail
    refine (rup a b _ h1 h2 h3 h4).mono ?_
    rw [← hr]
    rintro e _ ⟨rfl, rfl⟩
    go_wp2_with fail
    refine (works04 _).mono ?_
    rintro e w9 ⟨rfl, q9⟩
    go_wp2_with fail
    go_returns
    exact ⟨rfl, (Wrote.below (Below.refl _ _) hb (fun _ hi => hi.elim)).trans (q9.mono hb.size)⟩

end Go.Proofs.Ytbdlkkbjkbjanaa
