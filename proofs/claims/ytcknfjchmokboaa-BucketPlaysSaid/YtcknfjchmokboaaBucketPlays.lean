/-
  BucketPlays: the walk.
-/
import Derived.Test.YtcknfjchmokboaaBucket
import Derived.Test.YtcknfjchmokboaaHeld
import Derived.OpenShut
namespace Go.Proofs.Ytcknfjchmokboaa
open Go.RowKit

theorem payL_rng {n l : Int} (h : 0 ≤ l ∧ l ≤ 10000000) : 0 ≤ payL n l ∧ payL n l ≤ 10000000 := by
  unfold payL
  split
  · rename_i hb
    unfold mayB at hb
    rw [Bool.and_eq_true, decide_eq_true_eq, decide_eq_true_eq] at hb
    omega
  · exact h
theorem tickL_rng {m r l : Int} (h : 0 ≤ l ∧ l ≤ 10000000) (hm : 0 ≤ m ∧ m ≤ 10000000) (hr : 0 ≤ r) : 0 ≤ tickL m r l ∧ tickL m r l ≤ 10000000 := by
  unfold tickL
  split <;> omega

/-- Both buckets stand the same; the rest is as it was. -/
structure Both (w0 w : World) (B C : Nat) (m r l : Int) : Prop where
  p : St3 TB w B m r l
  q : St3 TR w C m r l
  b : Below w0.heap.size w0 w

theorem both_then {w0 w w' : World} {B C : Nat} {m r l : Int} (h : Both w0 w B C m r l) (hb : Below w.heap.size w w') : Both w0 w' B C m r l :=
  ⟨h.p.below hb h.p.lt, h.q.below hb h.q.lt, bthen h.b hb⟩

theorem left_quiet {w : World} {B C : Nat} {m r l : Int} (x : WIn (fun w' => Both w w' B C m r l)) :
    Calls Try.prog 26 #[.pointer (some ⟨B, 0, none⟩)] x.val fun e w'' => e = .returned (.int .i64 l) ∧ ∃ y : WIn (fun w' => Both w w' B C m r l), w'' = y.val :=
  (bleft B m r l _ x.property.p).mono fun _ _ h => ⟨h.1, x, h.2.symm⟩
theorem works_quiet {w : World} {B C : Nat} {m r l : Int} (x : WIn (fun w' => Both w w' B C m r l)) :
    Calls Try.prog 19 #[] x.val fun e w'' => e = .returned (.bool true) ∧ ∃ y : WIn (fun w' => Both w w' B C m r l), w'' = y.val :=
  (works21 _).mono fun _ w' h => ⟨h.1, ⟨w', both_then x.property h.2⟩, rfl⟩

set_option maxRecDepth 100000 in
set_option maxHeartbeats 1000000 in
theorem plays_walk (m r : Int) (a2 : Option Addr) (len2 cap2 : Nat) (z2 : List Int) (w : World) (hr0 : IsRow .i64 w a2 len2 cap2 z2) :
    Calls Try.prog 8 #[.int .i64 m, .int .i64 r, .slice a2 len2 cap2] w fun e w' => e = .returned (.bool true) ∧ Below w.heap.size w w' := by
  have hlen := hr0.len_le.2
  unfold maxLen at hlen
  by_cases hok : m < 1 ∨ 10000000 < m ∨ r < 1 ∨ 1000000 < r
  · have HO := Lib.hid hok
    clear hok
    go_enter Try.func8, Try.ntmps8
    go_wp2_with fail
    refine (bnew_no m r _ HO.out).mono ?_
    rintro e _ ⟨rfl, rfl⟩
    go_wp2_with fail
    refine (rnew_no m r _ HO.out).mono ?_
    rintro e _ ⟨rfl, rfl⟩
    go_wp2_with fail
    refine (works21 _).mono ?_
    rintro e w9 ⟨rfl, q9⟩
    go_wp2_with fail
    go_returns
    exact ⟨rfl, q9⟩
  · obtain ⟨hm1, hm2, hr1, hr2⟩ : 1 ≤ m ∧ m ≤ 10000000 ∧ 1 ≤ r ∧ r ≤ 1000000 := by omega
    clear hok
    go_enter Try.func8, Try.ntmps8
    go_wp2_with fail
    refine (bnew_yes m r _ hm1 hm2 hr1 hr2).mono ?_
    rintro e w1 ⟨rfl, q1, s1⟩
    have Q1 := Lib.hid q1
    have S1 := Lib.hid s1
    clear q1 s1
    go_wp2_with fail
    refine (rnew_yes m r _ hm1 hm2 hr1 hr2).mono ?_
    rintro e w2 ⟨rfl, q2, s2⟩
    have hBl := S1.out.lt
    have HB := Lib.hid (Both.mk (S1.out.below q2 hBl) s2 (bthen Q1.out q2))
    obtain ⟨B, hB⟩ : ∃ B, B = w.heap.size := ⟨_, rfl⟩
    obtain ⟨C, hC⟩ : ∃ C, C = w1.heap.size := ⟨_, rfl⟩
    have hBw : w.heap.size ≤ B := by omega
    have hBC : B < C := by omega
    rw [← hC] at HB ⊢
    have HB2 : Hid (Both w w2 B C m r m) := by rw [hB]; exact HB
    rw [← hB]
    clear hB hC q2 s2 Q1 S1 HB hBl
    go_wp2_with fail
    go_loopw [9] (fun i wr => ∃ (k : Nat) (l : Int), k ≤ len2 ∧ k ≤ 200 ∧ i = .int .i64 k ∧ Hid (0 ≤ l ∧ l ≤ 10000000) ∧ Hid (Both w wr B C m r l)) (fun i _ => 200 - (intOf i).toNat)
    case atStart => exact ⟨0, m, by omega, by omega, rfl, Lib.hid ⟨by omega, by omega⟩, HB2⟩
    case round =>
      obtain ⟨k, l, hk, hk2, rfl, hl, HB⟩ := hrel
      clear HB2
      by_cases hlt : k < len2
      · by_cases hlt2 : k < 200
        · obtain ⟨b2, off, rfl, hb2, hcl⟩ := hr0.at (j := k) (by omega)
          obtain ⟨n, hn⟩ : ∃ n : Int, n = z2.getD k 0 := ⟨_, rfl⟩
          have hcm := hcl k (by omega)
          rw [← hn] at hcm
          have hcw := (HB.out.b.cell (p := ⟨b2, off + k, none⟩) hb2).trans hcm
          have HM := Lib.hid hcm
          clear hcl hn hcm
          go_upto_if 45 with (fail)
          go_cut [9] (fun vi wc => vi = .int .i64 k ∧ ∃ l : Int, Hid (0 ≤ l ∧ l ≤ 10000000) ∧ Hid (Both w wc B C m r l))
          case first =>
            by_cases hneg : n < 0
            · go_wp2_with fail
              refine (btick _ _ _ _ _ HB.out.p hl.out (by omega)).mono ?_
              rintro e w4 ⟨rfl, g, s⟩
              have S4 := Lib.hid s
              have q4 := HB.out.q.grown g (by omega)
              have B4 := Lib.hid (own_grown HB.out.b g hBw)
              have Q4 := Lib.hid q4
              clear g s q4
              go_wp2_with fail
              refine (rtick _ _ _ _ _ Q4.out hl.out (by omega)).mono ?_
              rintro e w5 ⟨rfl, g, s⟩
              have S5 := Lib.hid (Both.mk (S4.out.grown g (by omega)) s (own_grown B4.out g (by omega)))
              clear g s
              go_wp2_with fail
              go_meet
              case rel => exact ⟨rfl, _, Lib.hid (tickL_rng hl.out (by omega) (by omega)), S5⟩
            · go_wp2_with fail
              go_meet
              case rel => exact ⟨rfl, _, hl, HB⟩
          case rest =>
            obtain ⟨rfl, l, hl, HB⟩ := hcut
            have HP : Hid (St3 TB wc.drew B m r l) := Lib.hid HB.out.p
            have HR : Hid (St3 TR wc.drew C m r l) := Lib.hid HB.out.q
            have HW : Hid (Below w.heap.size w wc.drew) := Lib.hid HB.out.b.drew
            have hcc : wc.drew.cell? ⟨b2, off + k, none⟩ = some (.int .i64 n) := (HB.out.b.cell (p := ⟨b2, off + k, none⟩) hb2).trans HM.out
            have hp2 := payL_rng (n := n) hl.out
            have HP2 := Lib.hid hp2
            have hk1 : (0 : Int) ≤ (k : Int) := by omega
            have hk3 : (k : Int) < (len2 : Int) := by omega
            have hbn : b2 ≠ B := by omega
            have hcn : b2 ≠ C := by omega
            have hCB : C ≠ B := by omega
            have hBC2 : B ≠ C := by omega
            have hCw : w.heap.size ≤ C := by omega
            have hbn2 : some b2 ≠ some B := fun e => hbn (by injection e)
            have hcn2 : some b2 ≠ some C := fun e => hcn (by injection e)
            clear hp2 HB hcw
            go_wp2_with fail
            refine wp_region_noPanic ?_
            refine wp_region_held_drew (S := fun w' => w'.cell? ⟨b2, off + k, none⟩ = some (.int .i64 n)) (by kernel_rfl) hcc (fun hHeld => ?_)
            refine wpAnyH_takeD (i := 0) (v := ?_) rfl (by kernel_rfl) (by kernel_rfl) (by kernel_rfl) (fun _ _ _ h => h) (Or.inl ⟨by rfl, ?_⟩) hHeld ?_
            rotate_left
            · intro w hSw
              go_simp
              try with_reducible rfl
            try simp only [Act.put, List.setIfInBounds_toArray, List.set_cons_zero, List.set_cons_succ]
            refine wpAnyH_takeD (i := 1) (v := ?_) rfl (by kernel_rfl) (by kernel_rfl) (by kernel_rfl) (fun _ _ _ h => h) (Or.inl ⟨by rfl, ?_⟩) hHeld ?_
            rotate_left
            · intro w hSw
              go_simp
              try with_reducible rfl
            try simp only [Act.put, List.setIfInBounds_toArray, List.set_cons_zero, List.set_cons_succ]
            refine wpAnyH_takeD (i := 2) (v := ?_) rfl (by kernel_rfl) (by kernel_rfl) (by kernel_rfl) (fun _ _ _ h => h) (Or.inl ⟨by rfl, ?_⟩) hHeld ?_
            rotate_left
            · intro w hSw
              go_simp
              try with_reducible rfl
            try simp only [Act.put, List.setIfInBounds_toArray, List.set_cons_zero, List.set_cons_succ]
            refine wpAnyH_takeD (i := 3) (v := ?_) rfl (by kernel_rfl) (by kernel_rfl) (by kernel_rfl) (fun _ _ _ h => h) (Or.inl ⟨by rfl, ?_⟩) hHeld ?_
            rotate_left
            · intro w hSw
              go_simp
              try with_reducible rfl
            try simp only [Act.put, List.setIfInBounds_toArray, List.set_cons_zero, List.set_cons_succ]
            refine wpAnyH_takeD (i := 4) (v := ?_) rfl (by kernel_rfl) (by kernel_rfl) (by kernel_rfl) (fun _ _ _ h => h) (Or.inl ⟨by rfl, ?_⟩) hHeld ?_
            rotate_left
            · intro w hSw
              go_simp
              try with_reducible rfl
            try simp only [Act.put, List.setIfInBounds_toArray, List.set_cons_zero, List.set_cons_succ]
            refine wpAnyH_takeD (i := 6) (v := ?_) rfl (by kernel_rfl) (by kernel_rfl) (by kernel_rfl) (fun _ _ _ h => h) (Or.inl ⟨by rfl, ?_⟩) hHeld ?_
            rotate_left
            · intro w hSw
              go_simp
              try with_reducible rfl
            try simp only [Act.put, List.setIfInBounds_toArray, List.set_cons_zero, List.set_cons_succ]
            refine wpAnyH_takeD (i := 7) (v := ?_) rfl (by kernel_rfl) (by kernel_rfl) (by kernel_rfl) (fun _ _ _ h => h) (Or.inl ⟨by rfl, ?_⟩) hHeld ?_
            rotate_left
            · intro w hSw
              go_simp
              try with_reducible rfl
            try simp only [Act.put, List.setIfInBounds_toArray, List.set_cons_zero, List.set_cons_succ]
            refine wpAnyH_takeD (i := 8) (v := ?_) rfl (by kernel_rfl) (by kernel_rfl) (by kernel_rfl) (fun _ _ _ h => h) (Or.inl ⟨by rfl, ?_⟩) hHeld ?_
            rotate_left
            · intro w hSw
              go_simp
              try with_reducible rfl
            try simp only [Act.put, List.setIfInBounds_toArray, List.set_cons_zero, List.set_cons_succ]
            refine wpAnyH_takeD (i := 9) (v := ?_) rfl (by kernel_rfl) (by kernel_rfl) (by kernel_rfl) (fun _ _ _ h => h) (Or.inl ⟨by rfl, ?_⟩) hHeld ?_
            rotate_left
            · intro w hSw
              go_simp
              try with_reducible rfl
            try simp only [Act.put, List.setIfInBounds_toArray, List.set_cons_zero, List.set_cons_succ]
            refine wpAnyH_takeD (i := 10) (v := ?_) rfl (by kernel_rfl) (by kernel_rfl) (by kernel_rfl) (fun _ _ _ h => h) (Or.inl ⟨by rfl, ?_⟩) hHeld ?_
            rotate_left
            · intro w hSw
              go_simp
              try with_reducible rfl
            try simp only [Act.put, List.setIfInBounds_toArray, List.set_cons_zero, List.set_cons_succ]
            refine wpAnyH_one (i := 5) rfl (by kernel_rfl) (fun K hK => ?_)
            go_simp
            refine (bmay B m r l n wc.drew HP.out).mono ?_
            rintro e _ ⟨rfl, rfl⟩
            refine hK.out _ _ (hHeld) (fun hHeld => ?_)
            clear hK K
            try simp only [Act.put, List.setIfInBounds_toArray, List.set_cons_zero, List.set_cons_succ]
            refine wpAnyH_one (i := 11) rfl (by kernel_rfl) (fun K hK => ?_)
            go_simp
            refine (rmay C m r l n wc.drew HR.out).mono ?_
            rintro e _ ⟨rfl, rfl⟩
            refine hK.out _ _ (hHeld) (fun hHeld => ?_)
            clear hK K
            try simp only [Act.put, List.setIfInBounds_toArray, List.set_cons_zero, List.set_cons_succ]
            refine wpAnyH_takeD (i := 12) (v := ?_) rfl (by kernel_rfl) (by kernel_rfl) (by kernel_rfl) (fun _ _ _ h => h) (Or.inl ⟨by rfl, ?_⟩) hHeld ?_
            rotate_left
            · intro w hSw
              go_simp
              try with_reducible rfl
            try simp only [Act.put, List.setIfInBounds_toArray, List.set_cons_zero, List.set_cons_succ]
            refine wpAnyH_takeD (i := 13) (v := ?_) rfl (by kernel_rfl) (by kernel_rfl) (by kernel_rfl) (fun _ _ _ h => h) (Or.inl ⟨by rfl, ?_⟩) hHeld ?_
            rotate_left
            · intro w hSw
              go_simp
              try with_reducible rfl
            try simp only [Act.put, List.setIfInBounds_toArray, List.set_cons_zero, List.set_cons_succ]
            refine wpAnyH_takeD (i := 14) (v := ?_) rfl (by kernel_rfl) (by kernel_rfl) (by kernel_rfl) (fun _ _ _ h => h) (Or.inl ⟨by rfl, ?_⟩) hHeld ?_
            rotate_left
            · intro w hSw
              go_simp
              try with_reducible rfl
            try simp only [Act.put, List.setIfInBounds_toArray, List.set_cons_zero, List.set_cons_succ]
            refine wpAnyH_takeD (i := 15) (v := ?_) rfl (by kernel_rfl) (by kernel_rfl) (by kernel_rfl) (fun _ _ _ h => h) (Or.inl ⟨by rfl, ?_⟩) hHeld ?_
            rotate_left
            · intro w hSw
              go_simp
              try with_reducible rfl
            try simp only [Act.put, List.setIfInBounds_toArray, List.set_cons_zero, List.set_cons_succ]
            refine wpAnyH_takeD (i := 16) (v := ?_) rfl (by kernel_rfl) (by kernel_rfl) (by kernel_rfl) (fun _ _ _ h => h) (Or.inl ⟨by rfl, ?_⟩) hHeld ?_
            rotate_left
            · intro w hSw
              go_simp
              try with_reducible rfl
            try simp only [Act.put, List.setIfInBounds_toArray, List.set_cons_zero, List.set_cons_succ]
            refine wpAnyH_takeD (i := 17) (v := ?_) rfl (by kernel_rfl) (by kernel_rfl) (by kernel_rfl) (fun _ _ _ h => h) (Or.inl ⟨by rfl, ?_⟩) hHeld ?_
            rotate_left
            · intro w hSw
              go_simp
              try with_reducible rfl
            try simp only [Act.put, List.setIfInBounds_toArray, List.set_cons_zero, List.set_cons_succ]
            refine wpAnyH_takeD (i := 18) (v := ?_) rfl (by kernel_rfl) (by kernel_rfl) (by kernel_rfl) (fun _ _ _ h => h) (Or.inl ⟨by rfl, ?_⟩) hHeld ?_
            rotate_left
            · intro w hSw
              go_simp
              try with_reducible rfl
            try simp only [Act.put, List.setIfInBounds_toArray, List.set_cons_zero, List.set_cons_succ]
            refine wpAnyH_takeD (i := 20) (v := ?_) rfl (by kernel_rfl) (by kernel_rfl) (by kernel_rfl) (fun _ _ _ h => h) (Or.inl ⟨by rfl, ?_⟩) hHeld ?_
            rotate_left
            · intro w hSw
              go_simp
              try with_reducible rfl
            try simp only [Act.put, List.setIfInBounds_toArray, List.set_cons_zero, List.set_cons_succ]
            refine wpAnyH_takeD (i := 21) (v := ?_) rfl (by kernel_rfl) (by kernel_rfl) (by kernel_rfl) (fun _ _ _ h => h) (Or.inl ⟨by rfl, ?_⟩) hHeld ?_
            rotate_left
            · intro w hSw
              go_simp
              try with_reducible rfl
            try simp only [Act.put, List.setIfInBounds_toArray, List.set_cons_zero, List.set_cons_succ]
            refine wpAnyH_takeD (i := 22) (v := ?_) rfl (by kernel_rfl) (by kernel_rfl) (by kernel_rfl) (fun _ _ _ h => h) (Or.inl ⟨by rfl, ?_⟩) hHeld ?_
            rotate_left
            · intro w hSw
              go_simp
              try with_reducible rfl
            try simp only [Act.put, List.setIfInBounds_toArray, List.set_cons_zero, List.set_cons_succ]
            refine wpAnyH_takeD (i := 23) (v := ?_) rfl (by kernel_rfl) (by kernel_rfl) (by kernel_rfl) (fun _ _ _ h => h) (Or.inl ⟨by rfl, ?_⟩) hHeld ?_
            rotate_left
            · intro w hSw
              go_simp
              try with_reducible rfl
            try simp only [Act.put, List.setIfInBounds_toArray, List.set_cons_zero, List.set_cons_succ]
            refine wpAnyH_takeD (i := 24) (v := ?_) rfl (by kernel_rfl) (by kernel_rfl) (by kernel_rfl) (fun _ _ _ h => h) (Or.inl ⟨by rfl, ?_⟩) hHeld ?_
            rotate_left
            · intro w hSw
              go_simp
              try with_reducible rfl
            try simp only [Act.put, List.setIfInBounds_toArray, List.set_cons_zero, List.set_cons_succ]
            refine wpAnyH_one (i := 19) rfl (by kernel_rfl) (fun K hK => ?_)
            go_simp
            refine (bpay B m r l n wc.drew HP.out hl.out).mono ?_
            rintro e w4 ⟨rfl, g4, s4⟩
            have HP4 := Lib.hid s4
            have HR4 := Lib.hid (HR.out.grown (w' := w4) g4 hCB)
            have HW4 := Lib.hid (own_grown HW.out g4 hBw)
            have hc4 := g4.cell (a := ⟨b2, off + k, none⟩) hcc hbn2
            clear g4 s4
            refine hK.out _ _ (hc4) (fun hHeld => ?_)
            clear hK K
            try simp only [Act.put, List.setIfInBounds_toArray, List.set_cons_zero, List.set_cons_succ]
            refine wpAnyH_one (i := 25) rfl (by kernel_rfl) (fun K hK => ?_)
            go_simp
            refine (rpay C m r l n w4 HR4.out hl.out).mono ?_
            rintro e w5 ⟨rfl, g5, s5⟩
            have HR5 := Lib.hid s5
            have HP5 := Lib.hid (HP4.out.grown (w' := w5) g5 hBC2)
            have HW5 := Lib.hid (own_grown HW4.out g5 hCw)
            have hc5 := g5.cell (a := ⟨b2, off + k, none⟩) hc4 hcn2
            clear g5 s5
            refine hK.out _ _ (hc5) (fun hHeld => ?_)
            clear hK K
            try simp only [Act.put, List.setIfInBounds_toArray, List.set_cons_zero, List.set_cons_succ]
            have hI : ∀ x : WIn (fun w' => Both w w' B C m r (payL n l)), x.val.cell? ⟨C, 2, none⟩ = some (.int .i64 (payL n l)) := fun x => x.property.q.c2
            have hne : Nonempty (WIn (fun w' => Both w w' B C m r (payL n l))) := ⟨⟨w5, ⟨HP5.out, HR5.out, HW5.out⟩⟩⟩
            refine wpAnyH_rest (fun w' => Both w w' B C m r (payL n l)) 26 _ (fun w' h => (h.b.cell (p := ⟨b2, off + k, none⟩) hb2).trans HM.out) ⟨HP5.out, HR5.out, HW5.out⟩ (by simp only [List.drop_succ_cons, List.drop_zero]) (by kernel_rfl) (by kernel_rfl) ?_
            repeat (go_big_quiet_step ((go_at_call 26; exact left_quiet _)))
            refine wpQuiet_nil ?_
            intro w6 h6
            refine NoPanic.normal ?_
            have HB6 := Lib.hid h6
            clear h6 hI hHeld
            go_wp2_with fail
            refine ⟨⟨k + 1, payL n l, by omega, by omega, by go_num, HP2, HB6⟩, by simp [intOf]; omega⟩
        · go_wp2_with fail
          have hne : Nonempty (WIn (fun w' => Both w w' B C m r l)) := ⟨⟨wr, HB.out⟩⟩
          have hI : ∀ x : WIn (fun w' => Both w w' B C m r l), x.val.cell? ⟨C, 2, none⟩ = some (.int .i64 l) := fun x => x.property.q.c2
          have hC := HB.out.q.lt
          have hB' := HB.out.p.lt
          refine wp_region_inv (fun w' => Both w w' B C m r l) (by kernel_rfl) (by kernel_rfl) ⟨HB.out.p, HB.out.q, HB.out.b.drew⟩ ?_
          repeat (go_big_quiet_step (first
            | (go_at_call 26; exact left_quiet _)
            | (go_at_call 19; exact works_quiet _)))
          refine wpQuiet_nil ?_
          intro w6 h6
          go_wp2_with fail
          go_returns
          exact ⟨rfl, h6.b⟩
      · go_wp2_with fail
        have hne : Nonempty (WIn (fun w' => Both w w' B C m r l)) := ⟨⟨wr, HB.out⟩⟩
        have hI : ∀ x : WIn (fun w' => Both w w' B C m r l), x.val.cell? ⟨C, 2, none⟩ = some (.int .i64 l) := fun x => x.property.q.c2
        refine wp_region_inv (fun w' => Both w w' B C m r l) (by kernel_rfl) (by kernel_rfl) ⟨HB.out.p, HB.out.q, HB.out.b.drew⟩ ?_
        repeat (go_big_quiet_step (first
          | (go_at_call 26; exact left_quiet _)
          | (go_at_call 19; exact works_quiet _)))
        refine wpQuiet_nil ?_
        intro w6 h6
        go_wp2_with fail
        go_returns
        exact ⟨rfl, h6.b⟩

end Go.Proofs.Ytcknfjchmokboaa
