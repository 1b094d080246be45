/-
  BudgetPlays: the walk.
-/
import Derived.Test.YtbdlkkbjkbjanaaBudgetRef
import Derived.OpenShut
import Derived.Deep.CutBlock
namespace Go.Proofs.Ytbdlkkbjkbjanaa
open Go.RowKit

/-- Both budgets stand the same; the rest is as it was. -/
structure BothB (w0 w : World) (s c : Nat) (g l gr pd : Int) : Prop where
  u : Bud w (s + 1) s g l gr pd
  r : RefB w c g l gr pd
  bel : Below w0.heap.size w0 w
  le : w0.heap.size ≤ s
  ap : s + 1 < c
theorem BothB.then {w0 w w' : World} {s c : Nat} {g l gr pd : Int} (h : BothB w0 w s c g l gr pd) (k : Wrote (fun _ => False) w w') : BothB w0 w' s c g l gr pd :=
  ⟨h.u.kept k (fun h => h) (fun h => h), h.r.kept k (fun h => h), Wrote.below h.bel k (fun _ hi => hi.elim), h.le, h.ap⟩
theorem BothB.step {w0 w w1 w2 : World} {s c : Nat} {g l gr pd l' gr' pd' : Int} (h : BothB w0 w s c g l gr pd) (k : Wrote (atBud (s + 1) s) w w1) (hb : Bud w1 (s + 1) s g l' gr' pd') (k2 : Wrote (· = c) w1 w2) (hr : RefB w2 c g l' gr' pd') : BothB w0 w2 s c g l' gr' pd' :=
  ⟨hb.kept k2 (by have := h.ap; omega) (by have := h.ap; omega), hr, Wrote.below (Wrote.below h.bel k (fun i hi => by have := h.le; unfold atBud at hi; omega)) k2 (fun i hi => by have := h.le; have := h.ap; omega), h.le, h.ap⟩

theorem left_q {w0 : World} {s c : Nat} {g l gr pd : Int} (x : WIn (fun w' => BothB w0 w' s c g l gr pd)) :
    Calls Try.prog 21 #[.pointer (some ⟨s + 1, 0, none⟩)] x.val fun e w'' => e = .returned (.int .i64 l) ∧ ∃ y : WIn (fun w' => BothB w0 w' s c g l gr pd), w'' = y.val :=
  (uleft (s + 1) s g l gr pd _ x.property.u).mono fun _ w' h => ⟨h.1, ⟨w', x.property.then h.2⟩, rfl⟩
theorem granted_q {w0 : World} {s c : Nat} {g l gr pd : Int} (x : WIn (fun w' => BothB w0 w' s c g l gr pd)) :
    Calls Try.prog 22 #[.pointer (some ⟨s + 1, 0, none⟩)] x.val fun e w'' => e = .returned (.int .u64 gr) ∧ ∃ y : WIn (fun w' => BothB w0 w' s c g l gr pd), w'' = y.val :=
  (ugranted (s + 1) s g l gr pd _ x.property.u).mono fun _ w' h => ⟨h.1, ⟨w', x.property.then h.2⟩, rfl⟩
theorem paid_q {w0 : World} {s c : Nat} {g l gr pd : Int} (x : WIn (fun w' => BothB w0 w' s c g l gr pd)) :
    Calls Try.prog 23 #[.pointer (some ⟨s + 1, 0, none⟩)] x.val fun e w'' => e = .returned (.int .u64 pd) ∧ ∃ y : WIn (fun w' => BothB w0 w' s c g l gr pd), w'' = y.val :=
  (upaid (s + 1) s g l gr pd _ x.property.u).mono fun _ w' h => ⟨h.1, ⟨w', x.property.then h.2⟩, rfl⟩

theorem leftP_rng {n l g : Int} (h1 : 0 ≤ l) (h2 : l ≤ 33282 + g) : 0 ≤ leftP n l ∧ leftP n l ≤ 33282 + g := by
  unfold leftP mayP
  split
  · rename_i hb
    rw [Bool.and_eq_true, decide_eq_true_eq, decide_eq_true_eq] at hb
    omega
  · omega

set_option maxRecDepth 100000 in
set_option maxHeartbeats 1000000 in
theorem budgetPlays_walk (g : Int) (hw1 : -9223372036854775808 ≤ g) (hw2 : g ≤ 9223372036854775807) (a1 : Option Addr) (len1 cap1 : Nat) (z1 : List Int) (w : World) (hr0 : IsRow .i64 w a1 len1 cap1 z1) :
    Calls Try.prog 3 #[.int .i64 g, .slice a1 len1 cap1] w fun e w' => e = .returned (.bool true) ∧ Below w.heap.size w w' := by
  have hlen := hr0.len_le.2
  unfold maxLen at hlen
  by_cases hok : g < 1 ∨ 1000000 < g
  · have HO := Lib.hid hok
    clear hok
    go_enter Try.func3, Try.ntmps3
    go_wp2_with fail
    refine (unew_no g _ HO.out).mono ?_
    rintro e _ ⟨rfl, rfl⟩
    go_wp2_with fail
    refine (rnew_no g _ HO.out).mono ?_
    rintro e _ ⟨rfl, rfl⟩
    go_wp2_with fail
    refine (works20 _).mono ?_
    rintro e w9 ⟨rfl, q9⟩
    go_wp2_with fail
    go_returns
    exact ⟨rfl, q9⟩
  · have hg1 : 1 ≤ g := by omega
    have hg2 : g ≤ 1000000 := by omega
    clear hok
    go_enter Try.func3, Try.ntmps3
    go_wp2_with fail
    refine (unew g _ hg1 hg2).mono ?_
    rintro e w1 ⟨rfl, q1, u1⟩
    go_wp2_with fail
    refine (rnew g _ hg1 hg2).mono ?_
    rintro e w2 ⟨rfl, q2, r2⟩
    obtain ⟨s, hs⟩ : ∃ s, s = w.heap.size := ⟨_, rfl⟩
    obtain ⟨c, hc⟩ : ∃ c, c = w1.heap.size := ⟨_, rfl⟩
    have H2 : Hid (BothB w w2 s c g 0 0 0) := Lib.hid (by
      rw [hs, hc]
      exact ⟨u1.kept (Wrote.ofBelow q2 (fun _ => False)) (fun h => h) (fun h => h), r2, bthen q1 q2, Nat.le_refl _, u1.B.lt⟩)
    rw [← hs, ← hc]
    clear hs hc u1 r2 q1 q2
    go_wp2_with fail
    go_loopw [7] (fun i wr => ∃ (k : Nat) (l gr pd : Int), k ≤ len1 ∧ k ≤ 300 ∧ i = .int .i64 k ∧ Hid (BothB w wr s c g l gr pd)) (fun i _ => 300 - (intOf i).toNat)
    case atStart => exact ⟨0, 0, 0, 0, by omega, by omega, rfl, H2⟩
    case round =>
      obtain ⟨k, l, gr, pd, hk, hk2, rfl, HB⟩ := hrel
      clear H2
      by_cases hlt : k < len1
      · by_cases hlt2 : k < 300
        · obtain ⟨b2, off, rfl, hb2, hcl⟩ := hr0.at (j := k) (by omega)
          obtain ⟨n, hn⟩ : ∃ n : Int, n = z1.getD k 0 := ⟨_, rfl⟩
          have hcm := hcl k (by omega)
          rw [← hn] at hcm
          have hwf : -9223372036854775808 ≤ n ∧ n ≤ 9223372036854775807 := by
            have hm : n ∈ z1 := by
              rw [hn, List.getD_eq_getElem?_getD, List.getElem?_eq_getElem (by have := hr0.len_le.1; omega)]
              exact List.getElem_mem _
            exact bounds_i64 (hr0.wf n hm)
          obtain ⟨hn1, hn2⟩ := hwf
          have HM := Lib.hid hcm
          clear hcl hn hcm
          have hk1 : (0 : Int) ≤ (k : Int) := by omega
          have hk3 : (k : Int) < (len1 : Int) := by omega
          have hk4 : (k : Int) < 300 := by omega
          go_upto_block 2 with fail
          go_cut [7] (fun vi wc => vi = .int .i64 k ∧ ∃ l gr pd : Int, Hid (BothB w wc s c g l gr pd))
          case first =>
            go_wp2_with fail
            go_loopw [8] (fun i wr => ∃ (j : Nat) (l gr pd : Int), j ≤ 9 ∧ i = .int .i64 j ∧ Hid (BothB w wr s c g l gr pd)) (fun i _ => 9 - (intOf i).toNat)
            case atStart => exact ⟨0, l, gr, pd, by omega, rfl, HB⟩
            case round =>
              obtain ⟨j, l, gr, pd, hj, rfl, HB⟩ := hrel
              have hcw := (HB.out.bel.cell (p := ⟨b2, off + k, none⟩) hb2).trans HM.out
              by_cases hj9 : j < 9
              · by_cases hneg : n < 0
                · have ht : -9 < (n + 1).tmod 9 ∧ (n + 1).tmod 9 ≤ 0 := by
                    have e : (n + 1).tmod 9 = -((-(n + 1)) % 9) := by
                      rw [← Int.tmod_eq_emod_of_nonneg (by omega), Int.neg_tmod, Int.neg_neg]
                    omega
                  obtain ⟨ht1, ht2⟩ := ht
                  have htw : wrap64 (-(n + 1).tmod 9 + 1) = -(n + 1).tmod 9 + 1 := by unfold wrap64; omega
                  by_cases hjn : (j : Int) < -(n + 1).tmod 9 + 1
                  · go_wp2_with fail
                    refine (utick _ _ _ _ _ _ _ HB.out.u).mono ?_
                    rintro e w4 ⟨rfl, k4, u4⟩
                    have K4 := Lib.hid k4
                    have U4 := Lib.hid u4
                    have R4 := Lib.hid (HB.out.r.kept k4 (by have := HB.out.ap; unfold atBud; omega))
                    clear k4 u4 hcw
                    go_wp2_with fail
                    refine (rtick _ _ _ _ _ _ R4.out HB.out.u.g1 HB.out.u.g2 HB.out.u.l1 HB.out.u.l2 HB.out.u.r1 HB.out.u.r2).mono ?_
                    rintro e w5 ⟨rfl, k5, r5⟩
                    have H5 := Lib.hid (HB.out.step K4.out U4.out k5 r5)
                    clear k5 r5
                    go_wp2_with fail
                    exact ⟨⟨j + 1, _, _, _, by omega, by go_num, H5⟩, by simp [intOf]; omega⟩
                  · go_wp2_with fail
                    go_meet
                    case rel => exact ⟨rfl, l, gr, pd, HB⟩
                · go_wp2_with fail
                  go_meet
                  case rel => exact ⟨rfl, l, gr, pd, HB⟩
              · go_wp2_with fail
                go_meet
                case rel => exact ⟨rfl, l, gr, pd, HB⟩
          case rest =>
            clear HB
            obtain ⟨rfl, l, gr, pd, HB⟩ := hcut
            have HC : Hid (BothB w wc.drew s c g l gr pd) := Lib.hid (HB.out.then ⟨rfl, rfl, rfl, Nat.le_refl _, fun _ _ _ => rfl⟩)
            have hcc : wc.drew.cell? ⟨b2, off + k, none⟩ = some (.int .i64 n) := (HC.out.bel.cell (p := ⟨b2, off + k, none⟩) hb2).trans HM.out
            clear HB
            go_wp2_with fail
            refine wp_region_noPanic ?_
            refine wp_region_held_drew (S := (fun w' => w'.cell? ⟨b2, off + k, none⟩ = some (.int .i64 n))) (by kernel_rfl) (hcc) (fun hHeld => ?_)
            refine wpAnyH_takeD (i := 0) (v := ?_) rfl (by kernel_rfl) (by kernel_rfl) (by kernel_rfl) (fun _ _ _ h => h) (Or.inl ⟨by rfl, ?_⟩) hHeld ?_
            rotate_left
            · rintro w hSw
              go_simp
              try with_reducible rfl
            try simp only [Act.put, List.setIfInBounds_toArray, List.set_cons_zero, List.set_cons_succ]
            refine wpAnyH_takeD (i := 1) (v := ?_) rfl (by kernel_rfl) (by kernel_rfl) (by kernel_rfl) (fun _ _ _ h => h) (Or.inl ⟨by rfl, ?_⟩) hHeld ?_
            rotate_left
            · rintro w hSw
              go_simp
              try with_reducible rfl
            try simp only [Act.put, List.setIfInBounds_toArray, List.set_cons_zero, List.set_cons_succ]
            refine wpAnyH_takeD (i := 2) (v := ?_) rfl (by kernel_rfl) (by kernel_rfl) (by kernel_rfl) (fun _ _ _ h => h) (Or.inl ⟨by rfl, ?_⟩) hHeld ?_
            rotate_left
            · rintro w hSw
              go_simp
              try with_reducible rfl
            try simp only [Act.put, List.setIfInBounds_toArray, List.set_cons_zero, List.set_cons_succ]
            refine wpAnyH_takeD (i := 3) (v := ?_) rfl (by kernel_rfl) (by kernel_rfl) (by kernel_rfl) (fun _ _ _ h => h) (Or.inl ⟨by rfl, ?_⟩) hHeld ?_
            rotate_left
            · rintro w hSw
              go_simp
              try with_reducible rfl
            try simp only [Act.put, List.setIfInBounds_toArray, List.set_cons_zero, List.set_cons_succ]
            refine wpAnyH_takeD (i := 4) (v := ?_) rfl (by kernel_rfl) (by kernel_rfl) (by kernel_rfl) (fun _ _ _ h => h) (Or.inl ⟨by rfl, ?_⟩) hHeld ?_
            rotate_left
            · rintro w hSw
              go_simp
              try with_reducible rfl
            try simp only [Act.put, List.setIfInBounds_toArray, List.set_cons_zero, List.set_cons_succ]
            refine wpAnyH_takeD (i := 6) (v := ?_) rfl (by kernel_rfl) (by kernel_rfl) (by kernel_rfl) (fun _ _ _ h => h) (Or.inl ⟨by rfl, ?_⟩) hHeld ?_
            rotate_left
            · rintro w hSw
              go_simp
              try with_reducible rfl
            try simp only [Act.put, List.setIfInBounds_toArray, List.set_cons_zero, List.set_cons_succ]
            refine wpAnyH_takeD (i := 7) (v := ?_) rfl (by kernel_rfl) (by kernel_rfl) (by kernel_rfl) (fun _ _ _ h => h) (Or.inl ⟨by rfl, ?_⟩) hHeld ?_
            rotate_left
            · rintro w hSw
              go_simp
              try with_reducible rfl
            try simp only [Act.put, List.setIfInBounds_toArray, List.set_cons_zero, List.set_cons_succ]
            refine wpAnyH_takeD (i := 8) (v := ?_) rfl (by kernel_rfl) (by kernel_rfl) (by kernel_rfl) (fun _ _ _ h => h) (Or.inl ⟨by rfl, ?_⟩) hHeld ?_
            rotate_left
            · rintro w hSw
              go_simp
              try with_reducible rfl
            try simp only [Act.put, List.setIfInBounds_toArray, List.set_cons_zero, List.set_cons_succ]
            refine wpAnyH_takeD (i := 9) (v := ?_) rfl (by kernel_rfl) (by kernel_rfl) (by kernel_rfl) (fun _ _ _ h => h) (Or.inl ⟨by rfl, ?_⟩) hHeld ?_
            rotate_left
            · rintro w hSw
              go_simp
              try with_reducible rfl
            try simp only [Act.put, List.setIfInBounds_toArray, List.set_cons_zero, List.set_cons_succ]
            refine wpAnyH_takeD (i := 10) (v := ?_) rfl (by kernel_rfl) (by kernel_rfl) (by kernel_rfl) (fun _ _ _ h => h) (Or.inl ⟨by rfl, ?_⟩) hHeld ?_
            rotate_left
            · rintro w hSw
              go_simp
              try with_reducible rfl
            try simp only [Act.put, List.setIfInBounds_toArray, List.set_cons_zero, List.set_cons_succ]
            have hnb : ¬ atBud (s + 1) s b2 := by have := HC.out.le; unfold atBud; omega
            have hcb : ¬ atBud (s + 1) s c := by have := HC.out.ap; unfold atBud; omega
            have hnc : ¬ b2 = c := by have := HC.out.le; have := HC.out.ap; omega
            refine wpAnyH_one (i := 5) rfl (by kernel_rfl) (fun K hK => ?_)
            go_simp
            refine (upay (s + 1) s n g l gr pd wc.drew HC.out.u).mono ?_
            rintro e w4 ⟨rfl, k4, u4⟩
            have K4 := Lib.hid k4
            have U4 := Lib.hid u4
            have R4 := Lib.hid (HC.out.r.kept k4 hcb)
            have hc4 := k4.cell hcc hnb
            clear k4 u4
            refine hK.out _ _ (hc4) (fun hHeld => ?_)
            clear hK K
            try simp only [Act.put, List.setIfInBounds_toArray, List.set_cons_zero, List.set_cons_succ]
            refine wpAnyH_one (i := 11) rfl (by kernel_rfl) (fun K hK => ?_)
            go_simp
            refine (rpay c n g l gr pd w4 R4.out HC.out.u.l1 (by have := HC.out.u.l2; omega) HC.out.u.p1 HC.out.u.p2).mono ?_
            rintro e w5 ⟨rfl, k5, r5⟩
            have H5 := Lib.hid (HC.out.step K4.out U4.out k5 r5)
            have hc5 := k5.cell hc4 hnc
            clear k5 r5
            refine hK.out _ _ (hc5) (fun hHeld => ?_)
            clear hK K
            try simp only [Act.put, List.setIfInBounds_toArray, List.set_cons_zero, List.set_cons_succ]
            refine wpAnyH_takeD (i := 12) (v := ?_) rfl (by kernel_rfl) (by kernel_rfl) (by kernel_rfl) (fun _ _ _ h => h) (Or.inl ⟨by rfl, ?_⟩) hHeld ?_
            rotate_left
            · rintro w hSw
              go_simp
              try with_reducible rfl
            try simp only [Act.put, List.setIfInBounds_toArray, List.set_cons_zero, List.set_cons_succ]
            refine wpAnyH_takeD (i := 13) (v := ?_) rfl (by kernel_rfl) (by kernel_rfl) (by kernel_rfl) (fun _ _ _ h => h) (Or.inl ⟨by rfl, ?_⟩) hHeld ?_
            rotate_left
            · rintro w hSw
              go_simp
              try with_reducible rfl
            try simp only [Act.put, List.setIfInBounds_toArray, List.set_cons_zero, List.set_cons_succ]
            have hI1 : ∀ x : WIn (fun w' => BothB w w' s c g (leftP n l) gr (paidP n l pd)), x.val.cell? ⟨c, 1, none⟩ = some (.int .i64 (leftP n l)) := fun x => x.property.r.cell 1 rfl
            have hI2 : ∀ x : WIn (fun w' => BothB w w' s c g (leftP n l) gr (paidP n l pd)), x.val.cell? ⟨c, 2, none⟩ = some (.int .u64 gr) := fun x => x.property.r.cell 2 rfl
            have hI3 : ∀ x : WIn (fun w' => BothB w w' s c g (leftP n l) gr (paidP n l pd)), x.val.cell? ⟨c, 3, none⟩ = some (.int .u64 (paidP n l pd)) := fun x => x.property.r.cell 3 rfl
            have hne : Nonempty (WIn (fun w' => BothB w w' s c g (leftP n l) gr (paidP n l pd))) := ⟨⟨w5, H5.out⟩⟩
            refine wpAnyH_rest (fun w' => BothB w w' s c g (leftP n l) gr (paidP n l pd)) 14 _ (fun w' h => (h.bel.cell (p := ⟨b2, off + k, none⟩) hb2).trans HM.out) H5.out (by simp only [List.drop_succ_cons, List.drop_zero]) (by kernel_rfl) (by kernel_rfl) ?_
            repeat (go_big_quiet_step (first
              | (go_at_call 21; exact left_q _)
              | (go_at_call 22; exact granted_q _)
              | (go_at_call 23; exact paid_q _)))
            refine wpQuiet_nil ?_
            intro w6 h6
            refine NoPanic.normal ?_
            have HB6 := Lib.hid h6
            clear h6 hI1 hI2 hI3 hHeld
            go_wp2_with fail
            exact ⟨⟨k + 1, _, _, _, by omega, by omega, by go_num, HB6⟩, by simp [intOf]; omega⟩
        · go_wp2_with fail
          refine (works20 _).mono ?_
          rintro e w9 ⟨rfl, q9⟩
          go_wp2_with fail
          go_returns
          exact ⟨rfl, bthen HB.out.bel q9⟩
      · go_wp2_with fail
        refine (works20 _).mono ?_
        rintro e w9 ⟨rfl, q9⟩
        go_wp2_with fail
        go_returns
        exact ⟨rfl, bthen HB.out.bel q9⟩

end Go.Proofs.Ytbdlkkbjkbjanaa
