/-
  BudgetBounds: the walk.
-/
import Derived.Test.YtbdlkkbjkbjanaaBudgetBounds
import Derived.Deep.CutBlock
namespace Go.Proofs.Ytbdlkkbjkbjanaa
open Go.RowKit

theorem BdL.push {w0 w w' : World} {s B : Nat} {g l gr pd : Int} {v v' : Value} {P P' : List Int} (h : BdL w0 w s B g l gr pd v P) (hg : w.grownBy w' v.ownBlock) (hi : Ints w' B v' P') : BdL w0 w' s B g l gr pd v' P' := by
  have hw : Wrote (fun j => B ≤ j) w w' := ⟨hg.os, hg.tape, hg.output, hg.size, fun k hk hp => hg.block k hk (fun e => hp (h.i.lt k e.symm).1)⟩
  have hlt := h.lt
  have hle := h.u.le
  exact ⟨⟨h.u.u.kept hw (by omega) (by omega), Wrote.below h.u.bel hw (fun i hi => by omega), h.u.le⟩, hi, h.lt, Nat.le_trans h.hB hg.size⟩

theorem part_nonneg {P : List Int} (h : ∀ x ∈ P, 0 ≤ x ∧ x ≤ 600000) (f t : Nat) : 0 ≤ part P f t := by
  unfold part
  have key : ∀ l : List Int, (∀ x ∈ l, 0 ≤ x) → 0 ≤ l.sum := by
    intro l
    induction l with
    | nil => simp
    | cons x l ih =>
      intro h
      rw [List.sum_cons]
      have h1 := h x (by simp)
      have h2 := ih (fun y hy => h y (by simp [hy]))
      omega
  exact key _ (fun x hx => (h x (List.mem_of_mem_take (List.mem_of_mem_drop hx))).1)
theorem getD_mem {xs : List Int} {k : Nat} (hk : k < xs.length) : xs.getD k 0 ∈ xs := by
  rw [List.getD_eq_getElem?_getD, List.getElem?_eq_getElem hk]
  exact List.getElem_mem _
/-- A slice that the call made, to be read. -/
structure OwnRow (w : World) (a : Option Addr) (len : Nat) (xs : List Int) : Prop where
  rd : ∀ j, j < len → ∃ b off, a = some ⟨b, off, Option.none⟩ ∧ ∀ i, i < len → w.cell? ⟨b, off + i, Option.none⟩ = some (.int .i64 (xs.getD i 0))
theorem Ints.srowP {w : World} {B : Nat} {v : Value} {xs : List Int} (h : Ints w B v xs) (_ : xs.length ≤ 1000) (_ : ∀ x ∈ xs, 0 ≤ x ∧ x ≤ 600000) :
    ∃ a cap, v = .slice a xs.length cap ∧ OwnRow w a xs.length xs := by
  have h0 := h
  rcases h.2 with ⟨hv, hx⟩ | ⟨g, cap, cur, hv, _⟩
  · have hx' : xs = [] := by simpa using hx
    subst hx'
    exact ⟨none, 0, hv, ⟨fun j hj => (by simp at hj)⟩⟩
  · subst hv
    exact ⟨some ⟨g, 0, none⟩, cap, rfl, ⟨fun j hj => ⟨g, 0, rfl, fun i hi => by rw [Nat.zero_add]; exact h0.cell i hi⟩⟩⟩

set_option maxRecDepth 100000 in
set_option maxHeartbeats 1000000 in
theorem budgetBounds_walk (x0 : Int) (hx1 : 0 ≤ x0) (hx2 : x0 ≤ 65535) (a1 : Option Addr) (len1 cap1 : Nat) (w : World) (hr0 : IsGrid .u16 w a1 len1 cap1) :
    Calls Try.prog 4 #[.int .u16 x0, .slice a1 len1 cap1] w fun e w' => e = .returned (.bool true) ∧ Below w.heap.size w w' := by
  have hlen := hr0.len_le.1
  unfold maxLen at hlen
  obtain ⟨g, hg⟩ : ∃ g : Int, g = 1 + x0 % 60000 := ⟨_, rfl⟩
  have hg1 : 1 ≤ g := by omega
  have hg2 : g ≤ 60000 := by omega
  have HG := Lib.hid hg
  clear hg
  go_enter Try.func4, Try.ntmps4
  go_wp2_with fail
  refine (works20 _).mono ?_
  rintro e w1 ⟨rfl, q1⟩
  go_wp2_with fail
  rw [← HG.out]
  refine (unew g _ (by omega) (by omega)).mono ?_
  rintro e w2 ⟨rfl, q2, u2⟩
  obtain ⟨s, hs⟩ : ∃ s, s = w1.heap.size := ⟨_, rfl⟩
  obtain ⟨B, hB⟩ : ∃ B, B = w2.heap.size := ⟨_, rfl⟩
  have H2 : Hid (BdL w w2 s B g 0 0 0 (.slice none 0 0) []) := Lib.hid (by
    rw [hs, hB]
    exact ⟨⟨u2, bthen q1 q2, q1.size⟩, Ints.nil _ _, u2.B.lt, Nat.le_refl _⟩)
  rw [← hs]
  clear hs hB u2 q1 q2
  go_wp2_with fail
  go_loopw [7, 8] (fun v i wr => ∃ (k : Nat) (P : List Int) (l pd : Int), k ≤ len1 ∧ k ≤ 100 ∧ i = .int .i64 k ∧ Hid (P.length = k) ∧ 0 ≤ pd ∧ 0 ≤ l ∧ l ≤ 33282 + g ∧ pd + l ≤ 60000 * k ∧ Hid (∀ x ∈ P, 0 ≤ x ∧ x ≤ 600000) ∧ Hid (Window P l g) ∧ Hid (BdL w wr s B g l (pd + l) pd v P)) (fun _ i _ => 100 - (intOf i).toNat)
  case atStart => exact ⟨0, [], 0, 0, by omega, by omega, rfl, Lib.hid rfl, by omega, by omega, by omega, by omega, Lib.hid (fun x hx => (by cases hx)), Lib.hid (Window.start g hg1), H2⟩
  case round =>
    obtain ⟨k, P, l, pd, hk, hk2, rfl, hPl, hpd, hl1, hl2, hsum, hPr, hW, hp⟩ := hrel
    clear H2
    by_cases h12 : k < len1 ∧ k < 100
    · obtain ⟨hlt, hlt2⟩ := h12
      obtain ⟨b2, off, ai, li, ci, zi, rfl, hb2, hcg, hri⟩ := hr0.at (j := k) hlt
      have HCG := Lib.hid hcg
      have hli := hri.len_le.2
      unfold maxLen at hli
      obtain ⟨t1, t2, t3⟩ := tickN_rng hg1 hl2
      obtain ⟨n, hn⟩ : ∃ n, n = tickN g l := ⟨_, rfl⟩
      rw [← hn] at t1 t2 t3
      have ha : addC (pd + l) n = pd + (l + n) := by unfold addC; rw [if_neg (by omega)]; omega
      have hk1 : (0 : Int) ≤ (k : Int) := by omega
      have hk3 : (k : Int) < (len1 : Int) := by omega
      have hk4 : (k : Int) < 100 := by omega
      clear hcg
      go_wp2_with fail
      refine (ztick w s B g l _ pd _ P _ hp (l + n) (pd + (l + n)) (by rw [hn]) (by rw [← hn]; exact ha)).mono ?_
      rintro e w3 ⟨rfl, h3⟩
      have HT : Hid (n ≤ g) := Lib.hid t2
      clear hn ha hp
      go_upto_block 2 with fail
      go_cut [9] (fun c wc => ∃ p : Int, c = .int .i64 p ∧ 0 ≤ p ∧ p ≤ l + n ∧ p ≤ 600000 ∧ Hid (BdL w wc s B g (l + n - p) (pd + (l + n)) (pd + p) u7 P))
      case first =>
        go_wp2_with fail
        go_loopw [9, 10] (fun c i wr => ∃ (j : Nat) (p : Int), j ≤ li ∧ j ≤ 8 ∧ i = .int .i64 j ∧ c = .int .i64 p ∧ 0 ≤ p ∧ p ≤ l + n ∧ p ≤ 65535 * j ∧ Hid (BdL w wr s B g (l + n - p) (pd + (l + n)) (pd + p) u7 P)) (fun _ i _ => 8 - (intOf i).toNat)
        case atStart => exact ⟨0, 0, by omega, by omega, rfl, rfl, by omega, by omega, by omega, by rw [Int.sub_zero, Int.add_zero]; exact h3⟩
        case round =>
          obtain ⟨j, p, hj, hj8, rfl, rfl, hp1, hp2, hp3, hp⟩ := hrel
          clear h3
          have hcg := (hp.out.u.bel.cell (p := ⟨b2, off + k, none⟩) hb2).trans HCG.out
          by_cases hjl : j < li
          · by_cases hj9 : j < 8
            · obtain ⟨b3, off3, rfl, hb3, hcl⟩ := hri.at (j := j) hjl
              obtain ⟨x, hx⟩ : ∃ x : Int, x = zi.getD j 0 := ⟨_, rfl⟩
              have hcm := hcl j hjl
              rw [← hx] at hcm
              have hxr : 0 ≤ x ∧ x ≤ 65535 := by
                have hm : x ∈ zi := by
                  rw [hx, List.getD_eq_getElem?_getD, List.getElem?_eq_getElem (by have := hri.len_le.1; omega)]
                  exact List.getElem_mem _
                exact bounds_u16 (hri.wf x hm)
              obtain ⟨hxa, hxb⟩ := hxr
              have HCM := Lib.hid hcm
              have hj1 : (0 : Int) ≤ (j : Int) := by omega
              have hj2 : (j : Int) < (li : Int) := by omega
              have hj3 : (j : Int) < 8 := by omega
              clear hcl hx hcm
              go_wp2_with fail
              refine (zleft w s B g _ _ _ _ P _ hp).mono ?_
              rintro e w4 ⟨rfl, h4⟩
              have hcg4 := (h4.out.u.bel.cell (p := ⟨b2, off + k, none⟩) hb2).trans HCG.out
              have hcm4 := (h4.out.u.bel.cell (p := ⟨b3, off3 + j, none⟩) hb3).trans HCM.out
              clear hcg
              by_cases hm : 1 ≤ x ∧ x ≤ l + n - p
              · obtain ⟨hm1, hm2⟩ := hm
                have HY := Lib.hid (mayP_yes hm1 hm2)
                have HL : Hid (leftP x (l + n - p) = l + n - (p + x)) := Lib.hid (by unfold leftP; rw [if_pos HY.out]; omega)
                have HP : Hid (paidP x (l + n - p) (pd + p) = pd + (p + x)) := Lib.hid (by unfold paidP; rw [if_pos HY.out]; unfold addC; rw [if_neg (by omega)]; omega)
                go_wp2_with fail
                refine (zpay w s B g _ _ _ _ P _ h4 x _ _ true HY.out HL.out HP.out).mono ?_
                rintro e w5 ⟨rfl, h5⟩
                have hcg5 := (h5.out.u.bel.cell (p := ⟨b2, off + k, none⟩) hb2).trans HCG.out
                have hcm5 := (h5.out.u.bel.cell (p := ⟨b3, off3 + j, none⟩) hb3).trans HCM.out
                clear hcg4 hcm4
                go_wp2_with fail
                exact ⟨⟨j + 1, p + x, by omega, by omega, by go_num, rfl, by omega, by omega, by omega, h5⟩, by simp [intOf]; omega⟩
              · have HY := Lib.hid (mayP_no hm)
                have HL : Hid (leftP x (l + n - p) = l + n - p) := Lib.hid (by unfold leftP; rw [if_neg (by rw [HY.out]; decide)])
                have HP : Hid (paidP x (l + n - p) (pd + p) = pd + p) := Lib.hid (by unfold paidP; rw [if_neg (by rw [HY.out]; decide)])
                by_cases hx1 : x < 1
                all_goals
                  try have hx2 : l + n - p < x := by omega
                  try have hx3 : 1 ≤ x := by omega
                  go_wp2_with fail
                  refine (zpay w s B g _ _ _ _ P _ h4 x _ _ false HY.out HL.out HP.out).mono ?_
                  rintro e w5 ⟨rfl, h5⟩
                  have hcg5 := (h5.out.u.bel.cell (p := ⟨b2, off + k, none⟩) hb2).trans HCG.out
                  have hcm5 := (h5.out.u.bel.cell (p := ⟨b3, off3 + j, none⟩) hb3).trans HCM.out
                  clear hcg4 hcm4
                  go_wp2_with fail
                  exact ⟨⟨j + 1, p, by omega, by omega, by go_num, rfl, by omega, by omega, by omega, h5⟩, by simp [intOf]; omega⟩
            · go_wp2_with fail
              go_meet
              case rel => exact ⟨p, rfl, hp1, hp2, by omega, hp⟩
          · go_wp2_with fail
            go_meet
            case rel => exact ⟨p, rfl, hp1, hp2, by omega, hp⟩
      case rest =>
        obtain ⟨p, rfl, hp1, hp2, hp3, hp⟩ := hcut
        clear h3
        have hBw := hp.out.hB
        have e : pd + (l + n) = (pd + p) + (l + n - p) := by omega
        rw [e] at hp
        have hl3 : 0 ≤ l + n - p := by omega
        have hl4 : l + n - p ≤ 33282 + g := by omega
        have HW2 := Lib.hid (hW.out.next HT.out hl3 hl4)
        have HP2 : Hid ((P ++ [p]).length = k + 1) := Lib.hid (by rw [List.length_append, hPl.out]; rfl)
        have HR2 : Hid (∀ x ∈ P ++ [p], 0 ≤ x ∧ x ≤ 600000) := Lib.hid (fun x hx => by
          rcases List.mem_append.1 hx with h | h
          · exact hPr.out x h
          · obtain rfl : x = p := by simpa using h
            exact ⟨hp1, hp3⟩)
        have hsum2 : (pd + p) + (l + n - p) ≤ 60000 * ((k + 1 : Nat) : Int) := by omega
        have hsum3 : (pd + p) + (l + n - p) ≤ 18446744073709551615 := by omega
        have hsum4 : 0 ≤ (pd + p) + (l + n - p) := by omega
        have hpd2 : 0 ≤ pd + p := by omega
        have hpd3 : pd + p ≤ 18446744073709551615 := by omega
        have hl5 : l + n - p ≤ 18446744073709551615 := by omega
        have hk5 : k ≤ 1000000 := by omega
        generalize hpp : pd + p = pd2 at *
        generalize hll : l + n - p = l2 at *
        clear e hpp hll hp2 hpd hl1 hl2 hsum t1 t2 t3 HCG hri
        go_wp2_with (at_builtin; refine wpList_push rfl (.tmp 97) (.tmp 99) rfl wc B u7 P p k hPl.out rfl hp.out.i hBw rfl hk5 ?_; intro g1 cap1' w2' hi1 hg1' hat1 hlt1 hb1; have H7 := Lib.hid (hp.out.push hg1' hi1); clear hg1' hi1 hat1 hlt1 hb1)
        refine (zgranted w s B g _ _ _ _ _ _ H7).mono ?_
        rintro e w8 ⟨rfl, h8⟩
        go_wp2_with fail
        refine (zpaid w s B g _ _ _ _ _ _ h8).mono ?_
        rintro e w9 ⟨rfl, h9⟩
        go_wp2_with fail
        refine (zleft w s B g _ _ _ _ _ _ h9).mono ?_
        rintro e w10 ⟨rfl, h10⟩
        go_wp2_with fail
        refine (zleft w s B g _ _ _ _ _ _ h10).mono ?_
        rintro e w11 ⟨rfl, h11⟩
        go_wp2_with fail
        refine (zleft w s B g _ _ _ _ _ _ h11).mono ?_
        rintro e w12 ⟨rfl, h12⟩
        go_wp2_with fail
        exact ⟨⟨k + 1, P ++ [p], l2, pd2, by omega, by omega, by go_num, HP2, hpd2, hl3, hl4, hsum2, HR2, HW2, h12⟩, by simp [intOf]; omega⟩
    · have h13 : (k < len1 ∧ ¬ k < 100) ∨ ¬ k < len1 := by omega
      clear h12
      have hPl2 := hPl.out
      obtain ⟨a7, cap7, rfl, s7⟩ := hp.out.i.srowP (by omega) hPr.out
      obtain ⟨N, hN⟩ : ∃ N, N = P.length := ⟨_, rfl⟩
      rw [← hN] at s7 ⊢
      have hN2 : N ≤ 100 := by omega
      have HN := Lib.hid hN
      have hbel := Lib.hid hp.out.u.bel
      clear hp hPl hPl2 hN hpd hl1 hl2 hsum
      rcases h13 with ⟨h14, h15⟩ | h14
      all_goals
        go_wp2_with fail
        go_loop [13] (fun i => ∃ f : Nat, f ≤ N ∧ i = .int .i64 f) (fun i => N - (intOf i).toNat)
        case atStart => exact ⟨0, by omega, rfl⟩
        case round =>
          obtain ⟨f, hf, rfl⟩ := hrel
          by_cases hfn : f < N
          · have hfn2 : (f : Int) < N := by omega
            go_wp2_with fail
            go_loop [14, 15] (fun c i => ∃ t : Nat, f ≤ t ∧ t ≤ N ∧ i = .int .i64 t ∧ c = .int .i64 (part P f t)) (fun _ i => N - (intOf i).toNat)
            case atStart => exact ⟨f, by omega, by omega, rfl, by rw [part_same]⟩
            case round =>
              obtain ⟨t, ht1, ht2, rfl, rfl⟩ := hrel
              by_cases htn : t < N
              · obtain ⟨b3, off3, rfl, hcl⟩ := s7.rd t htn
                have hcm := hcl t htn
                have hps := part_step P ht1 (by rw [← HN.out]; exact htn)
                have hq := hW.out.q f (t + 1) (by omega) (by rw [← HN.out]; omega)
                rw [hps, show ((t + 1 : Nat) : Int) - f = (t : Int) - f + 1 by omega] at hq
                have hp0 := part_nonneg hPr.out f t
                have hx0 := (hPr.out _ (getD_mem (k := t) (by rw [← HN.out]; exact htn)))
                have hm1 : 0 ≤ ((t : Int) - f + 1) * g := Int.mul_nonneg (by omega) (by omega)
                have hm2 : ((t : Int) - f + 1) * g ≤ 101 * 60000 := Int.mul_le_mul (by omega) hg2 (by omega) (by omega)
                have HPS := Lib.hid hps
                have htn2 : (t : Int) < N := by omega
                obtain ⟨hx0a, hx0b⟩ := hx0
                generalize hS : part P f t = S at *
                generalize hy : P.getD t 0 = y at *
                clear hcl hps hS hy
                go_wp2_with fail
                exact ⟨⟨t + 1, by omega, by omega, by go_num, by rw [HPS.out]⟩, by simp [intOf]; omega⟩
              · obtain rfl : t = N := by omega
                go_wp2_with fail
                exact ⟨⟨f + 1, by omega, by go_num⟩, by simp [intOf]; omega⟩
          · go_wp2_with fail
            go_returns
            exact ⟨rfl, hbel.out⟩

end Go.Proofs.Ytbdlkkbjkbjanaa
