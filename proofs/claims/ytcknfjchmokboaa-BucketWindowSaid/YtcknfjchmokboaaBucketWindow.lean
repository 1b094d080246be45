/-
  BucketWindow: the walk.
-/
import Derived.Test.YtcknfjchmokboaaBucket
import Derived.Test.YtcknfjchmokboaaInts
import Derived.OpenShut
namespace Go.Proofs.Ytcknfjchmokboaa
open Go.RowKit

/-- What is known of each moment x < K: what was paid since (P, and f to come), the ticks since (T, and g to come), what is left now. -/
def MomF (m r L U : Int) (f g : Nat → Int) (K : Nat) (P T : List Int) : Prop :=
  ∀ x, x < K → 0 ≤ P.getD x 0 ∧ 0 ≤ T.getD x 0 + g x ∧ T.getD x 0 + g x ≤ U ∧ P.getD x 0 + f x + L ≤ m + (T.getD x 0 + g x) * r
theorem MomF.upd {m r L U : Int} {f g f' g' : Nat → Int} {K : Nat} {P T P' T' : List Int} (h : MomF m r L U f g K P T)
    (e : ∀ x, x < K → 0 ≤ P'.getD x 0 ∧ P'.getD x 0 + f' x = P.getD x 0 + f x ∧ T'.getD x 0 + g' x = T.getD x 0 + g x) : MomF m r L U f' g' K P' T' := by
  intro x hx
  obtain ⟨h1, h2, h3, h4⟩ := h x hx
  obtain ⟨e1, e2, e3⟩ := e x hx
  rw [e2, e3]
  exact ⟨e1, h2, h3, h4⟩
theorem getD_snoc (P : List Int) (k x : Nat) (hl : P.length = k) (hx : x < k + 1) : (P ++ [0]).getD x 0 = if x < k then P.getD x 0 else 0 := by
  subst hl
  by_cases h : x < P.length
  · rw [if_pos h, List.getD_eq_getElem?_getD, List.getD_eq_getElem?_getD, List.getElem?_append_left h]
  · have : x = P.length := by omega
    subst this
    simp
theorem getD_set' (P : List Int) (j x : Nat) (y : Int) (hj : j < P.length) : (P.set j y).getD x 0 = if x = j then y else P.getD x 0 := by
  rw [List.getD_eq_getElem?_getD, List.getD_eq_getElem?_getD, List.getElem?_set]
  by_cases h : j = x
  · subst h; simp [hj]
  · rw [if_neg h, if_neg (fun e => h e.symm)]
theorem MomF.start {m r L : Int} {k : Nat} {P T : List Int} (h : MomF m r L k (fun _ => 0) (fun _ => 0) k P T) (hP : P.length = k) (hT : T.length = k) (hL : L ≤ m) :
    MomF m r L k (fun _ => 0) (fun _ => 0) (k + 1) (P ++ [0]) (T ++ [0]) := by
  intro x hx
  rw [getD_snoc P k x hP hx, getD_snoc T k x hT hx]
  by_cases hk : x < k
  · rw [if_pos hk, if_pos hk]; exact h x hk
  · rw [if_neg hk, if_neg hk]; simp; omega
theorem MomF.tick {m r L L' : Int} {k K : Nat} {P T : List Int} (h : MomF m r L k (fun _ => 0) (fun _ => 0) K P T) (hL : L' ≤ L + r) :
    MomF m r L' ((k + 1 : Nat) : Int) (fun _ => 0) (fun _ => 1) K P T := by
  intro x hx
  obtain ⟨h1, h2, h3, h4⟩ := h x hx
  simp only [Int.add_zero] at h2 h3 h4
  refine ⟨h1, by show 0 ≤ T.getD x 0 + 1; omega, by show T.getD x 0 + 1 ≤ _; omega, ?_⟩
  show P.getD x 0 + 0 + L' ≤ m + (T.getD x 0 + 1) * r
  rw [Int.add_mul, Int.one_mul]
  omega
theorem MomF.pay {m r L n : Int} {k K : Nat} {P T : List Int} (h : MomF m r L k (fun _ => 0) (fun _ => 0) K P T) :
    MomF m r (L - n) ((k + 1 : Nat) : Int) (fun _ => n) (fun _ => 0) K P T := by
  intro x hx
  obtain ⟨h1, h2, h3, h4⟩ := h x hx
  refine ⟨h1, h2, by omega, ?_⟩
  simp only [Int.add_zero] at h4
  show P.getD x 0 + n + (L - n) ≤ m + (T.getD x 0 + 0) * r
  rw [Int.add_zero]
  omega
theorem MomF.wide {m r L : Int} {k K : Nat} {f g : Nat → Int} {P T : List Int} (h : MomF m r L k f g K P T) : MomF m r L ((k + 1 : Nat) : Int) f g K P T := by
  intro x hx
  obtain ⟨h1, h2, h3, h4⟩ := h x hx
  exact ⟨h1, h2, by omega, h4⟩
theorem MomF.same {m r L U : Int} {f g f' g' : Nat → Int} {K : Nat} {P T : List Int} (h : MomF m r L U f g K P T) (hf : ∀ x, x < K → f' x = f x) (hg : ∀ x, x < K → g' x = g x) : MomF m r L U f' g' K P T := by
  intro x hx
  rw [hf x hx, hg x hx]
  exact h x hx

theorem two_push {w wr w2 w3 : World} {B : Nat} {m r L : Int} {n1 n2 : Nat} {PS TS P2 T2 : List Int} {v1 v2 : Value} {g1 cap1 g2 cap2 : Nat} (hB : w.heap.size ≤ B) (Q : Below w.heap.size w wr) (S : St3 TB wr B m r L) (hBr : B + 1 ≤ wr.heap.size)
    (HP : Ints wr (B + 1) v1 PS) (HN : v2.ownBlock = none ∨ v2.ownBlock ≠ v1.ownBlock) (HT : Ints wr (B + 1) v2 TS)
    (h1 : Ints w2 (B + 1) (.slice (some ⟨g1, 0, none⟩) n1 cap1) P2) (k1 : wr.grownBy w2 v1.ownBlock) (a1 : v1.ownBlock = some g1 ∨ wr.heap.size ≤ g1)
    (_h2 : Ints w3 (B + 1) (.slice (some ⟨g2, 0, none⟩) n2 cap2) T2) (k2 : w2.grownBy w3 v2.ownBlock) (a2 : v2.ownBlock = some g2 ∨ w2.heap.size ≤ g2) :
    Below w.heap.size w w3 ∧ St3 TB w3 B m r L ∧ Ints w3 (B + 1) (.slice (some ⟨g1, 0, none⟩) n1 cap1) P2 ∧ g1 ≠ g2 ∧ g1 < w3.heap.size := by
  have hl1 := (h1.lt g1 rfl).2
  have s1 := k1.size
  have s2 := k2.size
  have e1 : ∀ x, v1.ownBlock = some x → B + 1 ≤ x ∧ x < wr.heap.size := HP.lt
  have e2 : ∀ x, v2.ownBlock = some x → B + 1 ≤ x ∧ x < wr.heap.size := HT.lt
  have ne2 : some g1 ≠ v2.ownBlock := by
    intro e
    rcases a1 with a | a
    · rcases HN with h | h
      · rw [h] at e; cases e
      · exact h (by rw [← e, a])
    · have := (e2 g1 e.symm).2; omega
  have hs : ∀ x, x < wr.heap.size → some x ≠ v1.ownBlock → some x ≠ v2.ownBlock → w3.heap[x]? = wr.heap[x]? := fun x hx n1 n2 => (k2.block x (by omega) n2).trans (k1.block x hx n1)
  refine ⟨?_, ?_, ?_, ?_, by omega⟩
  · have b1 : Below w.heap.size w w2 := Q.grown k1 (by omega) (fun x hx => by have := (e1 x hx).1; omega)
    exact b1.grown k2 (by omega) (fun x hx => by have := (e2 x hx).1; omega)
  · exact (hs B (by omega) (fun e => by have := (e1 B e.symm).1; omega) (fun e => by have := (e2 B e.symm).1; omega)).trans S
  · exact h1.kept k2 (.inr ne2)
  · intro e
    rcases a2 with a | a
    · exact ne2 (by rw [e, a])
    · omega

theorem below_drewN {B : Nat} {a w : World} (h : Below B a w) (n : Nat) : Below B a (w.drewN n) := ⟨h.os, h.tape, h.output, h.size, h.block⟩
theorem Ints.besides {w w' : World} {B g n cap : Nat} {xs : List Int} (h : Ints w (B + 1) (.slice (some ⟨g, 0, none⟩) n cap) xs) (hg : w.grownBy w' (some B)) : Ints w' (B + 1) (.slice (some ⟨g, 0, none⟩) n cap) xs :=
  h.kept hg (.inr (fun e => by
    have h1 := (h.lt g rfl).1
    have e2 : g = B := by simpa [Value.ownBlock] using e
    omega))

set_option maxRecDepth 100000 in
set_option maxHeartbeats 2000000 in
theorem window_walk (a0 a1 : Int) (a2 : Option Addr) (len2 cap2 : Nat) (z2 : List Int) (w : World) (h0 : 0 ≤ a0 ∧ a0 ≤ 65535) (h1 : 0 ≤ a1 ∧ a1 ≤ 65535) (hr : IsRow .u16 w a2 len2 cap2 z2) :
    Calls Try.prog 9 #[.int .u16 a0, .int .u16 a1, .slice a2 len2 cap2] w fun e w' => e = .returned (.bool true) ∧ Below w.heap.size w w' := by
  obtain ⟨h01, h02⟩ := h0
  obtain ⟨h11, h12⟩ := h1
  have hlen := hr.len_le.2
  unfold maxLen at hlen
  go_enter Try.func9, Try.ntmps9
  go_wp2_with fail
  refine (bnew_yes (1 + a0) (1 + a1) _ (by omega) (by omega) (by omega) (by omega)).mono ?_
  rintro e w1 ⟨rfl, q1, s1⟩
  obtain ⟨B, hB⟩ : ∃ B, B = w.heap.size := ⟨_, rfl⟩
  rw [← hB] at s1
  have Q1 := Lib.hid q1
  have S1 := Lib.hid s1
  have hBl : w.heap.size ≤ B := by omega
  have hBlt : B + 1 ≤ w1.heap.size := s1.lt
  rw [← hB]
  clear hB q1 s1
  obtain ⟨m, hm⟩ : ∃ m, m = 1 + a0 := ⟨_, rfl⟩
  obtain ⟨r, hr'⟩ : ∃ r, r = 1 + a1 := ⟨_, rfl⟩
  rw [← hm, ← hr'] at S1
  have hm' := hm.symm
  have hr'' := hr'.symm
  have hm1 : 1 ≤ m := by omega
  have hm2 : m ≤ 65536 := by omega
  have hr1 : 1 ≤ r := by omega
  have hr2 : r ≤ 65536 := by omega
  clear hm hr'
  go_wp2_with fail
  clear hm' hr'' h01 h02 h11 h12
  go_loopw [10, 11, 12] (fun vp vt i wr => ∃ (k : Nat) (PS TS : List Int) (L : Int), k ≤ len2 ∧ k ≤ 120 ∧ i = .int .i64 k ∧ Hid (PS.length = k) ∧ Hid (TS.length = k) ∧ Ints wr (B + 1) vp PS ∧ Ints wr (B + 1) vt TS ∧
      (vt.ownBlock = none ∨ vt.ownBlock ≠ vp.ownBlock) ∧ Hid (St3 TB wr B m r L) ∧ 0 ≤ L ∧ L ≤ m ∧ Hid (MomF m r L k (fun _ => 0) (fun _ => 0) k PS TS) ∧ Hid (Below w.heap.size w wr) ∧ B + 1 ≤ wr.heap.size) (fun _ _ i _ => 120 - (intOf i).toNat)
  case atStart => exact ⟨0, [], [], m, by omega, by omega, rfl, rfl, rfl, Ints.nil _ _, Ints.nil _ _, .inl rfl, S1, by omega, by omega, (fun x hx => by omega), Q1, hBlt⟩
  case round =>
    obtain ⟨k, PS, TS, L, hk, hk2, rfl, HlP, HlT, hP, hT, hne, S, hL1, hL2, HM, Q, hBr⟩ := hrel
    clear S1 Q1 hBlt
    have HP := Lib.hid hP
    have HTi := Lib.hid hT
    have HN := Lib.hid hne
    clear hP hT hne
    by_cases hlt : k < len2
    · by_cases hlt2 : k < 120
      · obtain ⟨b2, off, rfl, hb2, hcl⟩ := hr.at (j := k) (by omega)
        obtain ⟨n, hn⟩ : ∃ n : Int, n = z2.getD k 0 := ⟨_, rfl⟩
        have hcm := hcl k (by omega)
        rw [← hn] at hcm
        have hz := hr.wf (z2.getD k 0) (by
            have hzl := hr.len_le.1
            rw [List.getD_eq_getElem?_getD, List.getElem?_eq_getElem (by omega)]
            exact List.getElem_mem _)
        have hz2 := bounds_u16 hz
        rw [← hn] at hz2
        obtain ⟨hn1, hn2⟩ := hz2
        clear hcl hz hn
        go_wp2_with (first
          | (at_builtin; refine wpList_push rfl (.tmp 38) (.tmp 39) rfl wr (B + 1) u10 PS 0 k HlP.out rfl HP.out hBr rfl (by omega) ?_; intro g1 cap1 w2 hi1 hg1 hat1 hl1 hb1; have ha1 := Lib.hid (apart_grown (n := k + 1) (cap := cap1) HTi.out HN.out hg1 hat1); have hs1 := hg1.size; have hI1 := Lib.hid hi1; have hG1 := Lib.hid hg1; have hA1 := Lib.hid hat1; clear hg1 hi1 hat1)
          | (at_builtin; refine wpList_push rfl (.tmp 41) (.tmp 42) rfl w2 (B + 1) u11 TS 0 k HlT.out rfl ha1.out.1 (by omega) rfl (by omega) ?_; intro g2 cap2 w3 hi2 hg2 hat2 hl2 hb2'; have R3 := Lib.hid (two_push hBl Q.out S.out hBr HP.out HN.out HTi.out hI1.out hG1.out hA1.out hi2 hg2 hat2); have hI2 := Lib.hid hi2; have hcw : w3.cell? ⟨b2, off + k, none⟩ = some (.int .u16 n) := (R3.out.1.cell (p := ⟨b2, off + k, none⟩) hb2).trans hcm; clear hi2 hg2 hat2 hI1 hG1 hA1 ha1 hs1 hl1))
        obtain ⟨q3, s3, hp3, hgne, hgl⟩ := R3.out
        have Q3 := Lib.hid q3
        have S3 := Lib.hid s3
        have P3 := Lib.hid hp3
        have M3 := Lib.hid (MomF.start HM.out HlP.out HlT.out hL2)
        have lP : Hid ((PS ++ [0]).length = k + 1) := by show (PS ++ [0]).length = k + 1; rw [List.length_append, HlP.out]; rfl
        have lT : Hid ((TS ++ [0]).length = k + 1) := by show (TS ++ [0]).length = k + 1; rw [List.length_append, HlT.out]; rfl
        generalize PS ++ [0] = P1 at *
        generalize TS ++ [0] = T1 at *
        have hBr3 : B + 1 ≤ w3.heap.size := by omega
        clear q3 s3 hp3 R3 hcm HP HTi HN HM HlP HlT S Q hBr
        refine (bleft _ _ _ _ _ S3.out).mono ?_
        rintro e _ ⟨rfl, rfl⟩
        go_upto_if 52 with (fail)
        go_cut [13] (fun vn wc => ∃ (nn d L' : Int) (T2 : List Int), vn = .int .i64 nn ∧ 0 ≤ nn ∧ nn ≤ 65535 ∧ Hid ((nn = 0 ∧ d = 1) ∨ (0 < nn ∧ d = 0)) ∧ 0 ≤ L' ∧ L' ≤ m ∧ Hid (T2.length = k + 1) ∧
          Hid (Ints wc (B + 1) (.slice (some ⟨g2, 0, none⟩) (k + 1) cap2) T2) ∧ Hid (Ints wc (B + 1) (.slice (some ⟨g1, 0, none⟩) (k + 1) cap1) P1) ∧ Hid (St3 TB wc B m r L') ∧
          Hid (MomF m r L' ((k + 1 : Nat) : Int) (fun _ => nn) (fun _ => d) (k + 1) P1 T2) ∧ Hid (Below w.heap.size w wc) ∧ B + 1 ≤ wc.heap.size)
        case first =>
          by_cases hn0 : n = 0
          · subst hn0
            by_cases hmt : m < L + r
            all_goals
              go_wp2_with fail
              refine (btick _ _ _ _ _ S3.out (by omega) (by omega)).mono ?_
              rintro e w4 ⟨rfl, g, s⟩
              have hti : tickL m r L = (if m < L + r then m else L + r) := rfl
              first | rw [if_pos hmt] at hti | rw [if_neg (by omega)] at hti
              rw [hti] at s
              have S4 := Lib.hid s
              have G4 := Lib.hid g
              clear s g hti
              go_wp2_with fail
              refine (bleft _ _ _ _ _ S4.out).mono ?_
              rintro e _ ⟨rfl, rfl⟩
              go_wp2_with fail
              go_meet
              case rel => exact ⟨0, 1, _, T1, rfl, by omega, by omega, Lib.hid (.inl ⟨rfl, rfl⟩), by omega, by omega, lT, Lib.hid (hI2.out.besides G4.out), Lib.hid (P3.out.besides G4.out), S4, Lib.hid (MomF.tick M3.out (by omega)), Lib.hid (own_grown Q3.out G4.out hBl), by have := G4.out.size; omega⟩
          · have hnz : (n == 0) = false := by simpa using hn0
            by_cases hnL : n ≤ L
            · have hmy : mayB n L = true := mayB_yes (by omega) hnL
              go_wp2_with fail
              refine (bpay _ _ _ _ _ _ S3.out (by omega)).mono ?_
              rintro e w4 ⟨rfl, g, s⟩
              rw [hmy]
              have hpl : payL n L = L - n := by unfold payL; rw [if_pos hmy]
              rw [hpl] at s
              have S4 := Lib.hid s
              have G4 := Lib.hid g
              clear s g hpl hmy
              go_wp2_with fail
              refine (bleft _ _ _ _ _ S4.out).mono ?_
              rintro e _ ⟨rfl, rfl⟩
              go_wp2_with fail
              go_meet
              case rel => exact ⟨n, 0, _, T1, rfl, by omega, by omega, Lib.hid (.inr ⟨by omega, rfl⟩), by omega, by omega, lT, Lib.hid (hI2.out.besides G4.out), Lib.hid (P3.out.besides G4.out), S4, Lib.hid (MomF.pay M3.out), Lib.hid (own_grown Q3.out G4.out hBl), by have := G4.out.size; omega⟩
            · have hmy : mayB n L = false := mayB_no (by omega)
              go_wp2_with fail
              refine (bpay _ _ _ _ _ _ S3.out (by omega)).mono ?_
              rintro e w4 ⟨rfl, g, s⟩
              rw [hmy]
              have hpl : payL n L = L := by unfold payL; rw [hmy]; rfl
              rw [hpl] at s
              have S4 := Lib.hid s
              have T4 := Lib.hid (hI2.out.besides g)
              have P4 := Lib.hid (P3.out.besides g)
              have Q4 := Lib.hid (own_grown Q3.out g hBl)
              have hs4 := g.size
              clear s g hpl hmy
              go_wp2_with fail
              refine (bleft _ _ _ _ _ S4.out).mono ?_
              rintro e _ ⟨rfl, rfl⟩
              go_wp2_with fail
              go_loopw [15] (fun i wr => ∃ (j : Nat) (T2 : List Int), j ≤ k + 1 ∧ i = .int .i64 j ∧ Hid (T2.length = k + 1) ∧ Hid (Ints wr (B + 1) (.slice (some ⟨g2, 0, none⟩) (k + 1) cap2) T2) ∧
                Hid (Ints wr (B + 1) (.slice (some ⟨g1, 0, none⟩) (k + 1) cap1) P1) ∧ Hid (St3 TB wr B m r L) ∧ Hid (MomF m r L k (fun _ => 0) (fun x => if x < j then 1 else 0) (k + 1) P1 T2) ∧ Hid (Below w.heap.size w wr) ∧ B + 1 ≤ wr.heap.size) (fun i _ => k + 1 - (intOf i).toNat)
              case atStart => exact ⟨0, T1, by omega, rfl, lT, T4, P4, S4, Lib.hid (M3.out.same (fun _ _ => rfl) (fun x _ => by simp)), Q4, by omega⟩
              case round =>
                obtain ⟨j, T2, hj, rfl, lT2, T5, P5, S5, M5, Q5, hB5⟩ := hrel
                clear T4 P4 S4 Q4 hs4 M3 S3 Q3 P3 hI2 lT hcw
                by_cases hjk : j < k + 1
                · have hcj := T5.out.cell j (by rw [lT2.out]; exact hjk)
                  have hfj := T5.out.free j
                  have hmj := M5.out j hjk
                  have hmj2 : 0 ≤ T2.getD j 0 ∧ T2.getD j 0 ≤ k := by
                    obtain ⟨_, h2, h3, _⟩ := hmj
                    simp only [Nat.lt_irrefl, if_false, Int.add_zero] at h2 h3
                    exact ⟨h2, h3⟩
                  obtain ⟨t, ht⟩ : ∃ t, t = T2.getD j 0 := ⟨_, rfl⟩
                  rw [← ht] at hcj hmj2
                  have Ht := Lib.hid ht
                  obtain ⟨ht1, ht2⟩ := hmj2
                  clear ht hmj
                  go_wp2_with fail
                  refine ⟨⟨j + 1, T2.set j (t - 1), by omega, by go_num, Lib.hid (by rw [List.length_set]; exact lT2.out), Lib.hid (T5.out.set j _), Lib.hid (P5.out.other g2 j _ hgne), Lib.hid (S5.out.grown (setCell_grown _ g2 j _) (by omega)), ?_, Lib.hid (Q5.out.setCell (by show w.heap.size ≤ g2; omega) _), by simpa using hB5⟩, by simp [intOf]; omega⟩
                  refine Lib.hid (M5.out.upd fun x hx => ⟨(M5.out x hx).1, rfl, ?_⟩)
                  rw [getD_set' _ _ _ _ (by rw [lT2.out]; exact hjk)]
                  by_cases e : x = j
                  · subst e
                    rw [if_pos rfl, if_pos (by omega), if_neg (by omega), ← Ht.out]
                    omega
                  · rw [if_neg e]
                    by_cases e2 : x < j
                    · rw [if_pos e2, if_pos (by omega)]
                    · rw [if_neg e2, if_neg (by omega)]
                · obtain rfl : j = k + 1 := by omega
                  go_wp2_with fail
                  go_meet
                  case rel => exact ⟨0, 1, _, T2, rfl, by omega, by omega, Lib.hid (.inl ⟨rfl, rfl⟩), by omega, by omega, lT2, T5, P5, S5, Lib.hid ((M5.out.same (fun _ _ => rfl) (fun x hx => (if_pos hx).symm)).wide), Q5, hB5⟩
        case rest =>
          obtain ⟨nn, d, L', T2, rfl, hnn1, hnn2, hnd, hL'1, hL'2, lT2, T4, P4, S4, M4, Q4, hB4⟩ := hcut
          clear S3 Q3 M3 P3 hI2 lT hcw hBr3
          go_wp2_with fail
          go_loopw [16] (fun i wr => ∃ (j : Nat) (P2 T2 : List Int), j ≤ k + 1 ∧ i = .int .i64 j ∧ Hid (P2.length = k + 1) ∧ Hid (T2.length = k + 1) ∧ Hid (Ints wr (B + 1) (.slice (some ⟨g2, 0, none⟩) (k + 1) cap2) T2) ∧
                Hid (Ints wr (B + 1) (.slice (some ⟨g1, 0, none⟩) (k + 1) cap1) P2) ∧ Hid (St3 TB wr B m r L') ∧ Hid (MomF m r L' ((k + 1 : Nat) : Int) (fun x => if x < j then 0 else nn) (fun x => if x < j then 0 else d) (k + 1) P2 T2) ∧ Hid (Below w.heap.size w wr) ∧ B + 1 ≤ wr.heap.size) (fun i _ => k + 1 - (intOf i).toNat)
          case atStart => exact ⟨0, P1, T2, by omega, rfl, lP, lT2, T4, P4, S4, Lib.hid (M4.out.same (fun x _ => by simp) (fun x _ => by simp)), Q4, hB4⟩
          case round =>
            obtain ⟨j, P2, T2, hj, rfl, lP2, lT2, T5, P5, S5, M5, Q5, hB5⟩ := hrel
            clear S4 Q4 T4 P4 M4
            by_cases hjk : j < k + 1
            · have hcp := P5.out.cell j (by rw [lP2.out]; exact hjk)
              have hfp := P5.out.free j
              have hct := T5.out.cell j (by rw [lT2.out]; exact hjk)
              have hft := T5.out.free j
              have hmj := M5.out j hjk
              simp only [Nat.lt_irrefl, if_false] at hmj
              obtain ⟨pj, hpj⟩ : ∃ t, t = P2.getD j 0 := ⟨_, rfl⟩
              obtain ⟨tj, htj⟩ : ∃ t, t = T2.getD j 0 := ⟨_, rfl⟩
              rw [← hpj] at hcp hmj
              rw [← htj] at hct hmj
              obtain ⟨hm1', hm2', hm3', hm4'⟩ := hmj
              have Hp := Lib.hid hpj
              have Ht := Lib.hid htj
              have hpb : pj + nn ≤ 100000000 := by
                have hle : (tj + d) * r ≤ 121 * 65536 := Int.mul_le_mul (by omega) hr2 (by omega) (by omega)
                omega
              obtain ⟨z, hz⟩ : ∃ z, (tj + d) * r = z := ⟨_, rfl⟩
              rw [hz] at hm4'
              have hz0 : 0 ≤ z := by rw [← hz]; exact Int.mul_nonneg hm2' (by omega)
              have hz1 : z ≤ 10000000 := by
                have hle : (tj + d) * r ≤ 121 * 65536 := Int.mul_le_mul (by omega) hr2 (by omega) (by omega)
                omega
              have Hz := Lib.hid hz
              have HB5 := Lib.hid hB5
              clear hpj htj hz
              by_cases hn0 : nn = 0
              · have hd : d = 1 := by
                  rcases hnd.out with h | h
                  · exact h.2
                  · omega
                subst hn0
                subst hd
                have hzr := Hz.out
                have hct2 : ∀ x, ((wr.setCell ⟨g1, j, none⟩ (.int .i64 x)).cell? ⟨g2, j, none⟩) = some (.int .i64 tj) := fun x => (World.cell?_setCell_other wr ⟨g1, j, none⟩ ⟨g2, j, none⟩ _ (fun e => hgne (by injection e))).trans hct
                go_wp2_with fail
                have P6 := Lib.hid ((P5.out.set j pj).other g2 j (.int .i64 (tj + 1)) hgne)
                have T6 := Lib.hid ((T5.out.other g1 j (.int .i64 pj) (Ne.symm hgne)).set j (tj + 1))
                have S6 := Lib.hid ((S5.out.grown (setCell_grown _ g1 j (.int .i64 pj)) (by omega)).grown (setCell_grown _ g2 j (.int .i64 (tj + 1))) (by omega))
                have Q6 := Lib.hid ((Q5.out.setCell (p := ⟨g1, j, none⟩) (by show w.heap.size ≤ g1; omega) (.int .i64 pj)).setCell (p := ⟨g2, j, none⟩) (by show w.heap.size ≤ g2; omega) (.int .i64 (tj + 1)))
                have hB6 : B + 1 ≤ ((wr.setCell ⟨g1, j, none⟩ (.int .i64 pj)).setCell ⟨g2, j, none⟩ (.int .i64 (tj + 1))).heap.size := by simpa using HB5.out
                clear hct2 hcp hfp hct hft hB5
                generalize (wr.setCell ⟨g1, j, none⟩ (.int .i64 pj)).setCell ⟨g2, j, none⟩ (.int .i64 (tj + 1)) = w6 at *
                have hcp := P6.out.cell j (by rw [List.length_set, lP2.out]; exact hjk)
                have hct := T6.out.cell j (by rw [List.length_set, lT2.out]; exact hjk)
                rw [getD_set' _ _ _ _ (by rw [lP2.out]; exact hjk), if_pos rfl] at hcp
                rw [getD_set' _ _ _ _ (by rw [lT2.out]; exact hjk), if_pos rfl] at hct
                have hno : ¬ m + z < pj := by omega
                go_quiet (fail)
                go_wp2_with fail
                refine ⟨⟨j + 1, P2.set j pj, T2.set j (tj + 1), by omega, by go_num, Lib.hid (by rw [List.length_set]; exact lP2.out), Lib.hid (by rw [List.length_set]; exact lT2.out), Lib.hid T6.out, Lib.hid P6.out, Lib.hid S6.out, ?_, Lib.hid (below_drewN Q6.out _), by simpa using hB6⟩, by simp [intOf]; omega⟩
                refine Lib.hid (M5.out.upd fun x hx => ?_)
                have hx0 := (M5.out x hx).1
                rw [getD_set' _ _ _ _ (by rw [lP2.out]; exact hjk), getD_set' _ _ _ _ (by rw [lT2.out]; exact hjk)]
                by_cases e : x = j
                · subst e
                  rw [if_pos rfl, if_pos rfl, if_pos (by omega), if_neg (by omega), if_pos (by omega), if_neg (by omega), ← Ht.out, ← Hp.out]
                  omega
                · rw [if_neg e, if_neg e]
                  refine ⟨hx0, ?_, ?_⟩
                  · simp
                  · by_cases e2 : x < j
                    · rw [if_pos e2, if_pos (by omega)]
                    · rw [if_neg e2, if_neg (by omega)]
              · have hnz : (nn == 0) = false := by simpa using hn0
                have hd : d = 0 := by
                  rcases hnd.out with h | h
                  · omega
                  · exact h.2
                subst hd
                have hzr : tj * r = z := by have h := Hz.out; rwa [Int.add_zero] at h
                go_wp2_with fail
                have P6 := Lib.hid (P5.out.set j (pj + nn))
                have T6 := Lib.hid (T5.out.other g1 j (.int .i64 (pj + nn)) (Ne.symm hgne))
                have S6 := Lib.hid (S5.out.grown (setCell_grown _ g1 j (.int .i64 (pj + nn))) (by omega))
                have Q6 := Lib.hid (Q5.out.setCell (p := ⟨g1, j, none⟩) (by show w.heap.size ≤ g1; omega) (.int .i64 (pj + nn)))
                have hB6 : B + 1 ≤ (wr.setCell ⟨g1, j, none⟩ (.int .i64 (pj + nn))).heap.size := by simpa using HB5.out
                clear hcp hfp hct hft hB5
                generalize wr.setCell ⟨g1, j, none⟩ (.int .i64 (pj + nn)) = w6 at *
                have hcp := P6.out.cell j (by rw [List.length_set, lP2.out]; exact hjk)
                have hct := T6.out.cell j (by rw [lT2.out]; exact hjk)
                rw [getD_set' _ _ _ _ (by rw [lP2.out]; exact hjk), if_pos rfl] at hcp
                rw [← Ht.out] at hct
                have hno : ¬ m + z < pj + nn := by omega
                go_quiet (fail)
                go_wp2_with fail
                refine ⟨⟨j + 1, P2.set j (pj + nn), T2, by omega, by go_num, Lib.hid (by rw [List.length_set]; exact lP2.out), lT2, Lib.hid T6.out, Lib.hid P6.out, Lib.hid S6.out, ?_, Lib.hid (below_drewN Q6.out _), by simpa using hB6⟩, by simp [intOf]; omega⟩
                refine Lib.hid (M5.out.upd fun x hx => ?_)
                have hx0 := (M5.out x hx).1
                rw [getD_set' _ _ _ _ (by rw [lP2.out]; exact hjk)]
                by_cases e : x = j
                · subst e
                  rw [if_pos rfl, if_pos (by omega), if_neg (by omega), if_pos (by omega), if_neg (by omega), ← Hp.out]
                  omega
                · rw [if_neg e]
                  refine ⟨hx0, ?_, ?_⟩
                  · by_cases e2 : x < j
                    · rw [if_pos e2, if_pos (by omega)]
                    · rw [if_neg e2, if_neg (by omega)]
                  · simp
            · obtain rfl : j = k + 1 := by omega
              have HB5 := Lib.hid hB5
              go_wp2_with fail
              refine ⟨⟨k + 1, P2, T2, L', by omega, by omega, by go_num, lP2, lT2, P5.out, T5.out, .inr (by simpa [Value.ownBlock] using Ne.symm hgne), S5, hL'1, hL'2, ?_, Q5, HB5.out⟩, by simp [intOf]; omega⟩
              exact Lib.hid (M5.out.same (fun x hx => (if_pos hx).symm) (fun x hx => (if_pos hx).symm))
      · go_wp2_with fail
        refine (works21 _).mono ?_
        rintro e w9 ⟨rfl, q9⟩
        go_wp2_with fail
        go_returns
        exact ⟨rfl, bthen Q.out q9⟩
    · go_wp2_with fail
      refine (works21 _).mono ?_
      rintro e w9 ⟨rfl, q9⟩
      go_wp2_with fail
      go_returns
      exact ⟨rfl, bthen Q.out q9⟩

end Go.Proofs.Ytcknfjchmokboaa
