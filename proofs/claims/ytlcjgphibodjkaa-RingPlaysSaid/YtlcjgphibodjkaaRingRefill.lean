/-
  RingRefill: the walk.
-/
import Derived.Test.YtlcjgphibodjkaaRingKnown
import Derived.Test.YtlcjgphibodjkaaGrid
namespace Go.Proofs.Ytlcjgphibodjkaa
open Go.RowKit
theorem Ints.wrote {w w' : World} {B : Nat} {v : Value} {xs : List Int} {p : Nat → Prop} (h : Ints w B v xs) (k : Wrote p w w') (hp : ∀ j, B ≤ j → ¬ p j) : Ints w' B v xs := by
  refine ⟨h.1, ?_⟩
  rcases h.2 with h0 | ⟨g, cap, cur, hv, hb, hg, h1⟩
  · exact .inl h0
  · exact .inr ⟨g, cap, cur, hv, hb, (k.block g (lt_of_block hg) (hp g hb)).trans hg, h1⟩
theorem Ints.formW {w : World} {B n c : Nat} {a : Option Addr} {xs : List Int} (h : Ints w B (.slice a n c) xs) (hn : 0 < xs.length) : ∃ g, a = some ⟨g, 0, none⟩ ∧ B ≤ g ∧ g < w.heap.size ∧ n ≤ c := by
  rcases h.2 with ⟨_, h0⟩ | ⟨g, cap, cur, hv, hb, hg, hnc, _⟩
  · omega
  · have hl := h.1
    simp at hv hl
    obtain ⟨rfl, rfl, rfl⟩ := hv
    exact ⟨g, rfl, hb, lt_of_block hg, hnc⟩
theorem RI.drew {w : World} {r room : Nat} {v : Value} {l : List Int} (h : RI w r room v l) : RI w.drew r room v l := h.below ((Below.refl _ _).drew)
theorem take_drop_cons (z : List Int) (c k : Nat) (h : k < c) (hz : c ≤ z.length) : (z.take c).drop k = z.getD k 0 :: (z.take c).drop (k + 1) := by
  rw [List.drop_eq_getElem_cons (by rw [List.length_take]; omega), List.getElem_take, List.getD_eq_getElem?_getD, List.getElem?_eq_getElem (by omega)]
  rfl
theorem take_snocD (z : List Int) (k : Nat) (h : k < z.length) : z.take k ++ [z.getD k 0] = z.take (k + 1) := by
  rw [List.take_add_one, List.getD_eq_getElem?_getD, List.getElem?_eq_getElem h]
  rfl

set_option maxRecDepth 100000 in
set_option maxHeartbeats 400000 in
theorem ringRefill_walk (m : Int) (hm : 0 ≤ m ∧ m ≤ 255) (a : Option Addr) (len cap : Nat) (w : World) (hr : IsGrid .i64 w a len cap) :
    Calls Try.prog 11 #[.int .u8 m, .slice a len cap] w fun e w' => e = .returned (.bool true) ∧ Below w.heap.size w w' := by
  obtain ⟨n, hn, hn1, hn2⟩ : ∃ n : Nat, 1 + m % 20 = n ∧ 1 ≤ n ∧ n ≤ 20 := ⟨(1 + m % 20).toNat, by omega⟩
  have HR := Lib.hid hr
  clear hr
  go_enter Try.func11, Try.ntmps11
  go_wp2_with fail
  refine (inew n _ hn1 (by omega)).mono ?_
  rintro e w1 ⟨rfl, q1, s1⟩
  clear hn
  go_wp2_with fail
  go_loopw [7] (fun i wr => ∃ (k : Nat) (v : Value), i = .int .i64 k ∧ k ≤ 12 ∧ Below w.heap.size w wr ∧ (∀ j, sliceAt v j → w.heap.size ≤ j) ∧ Hid (RI wr w.heap.size n v [])) (fun i _ => (12 - intOf i).toNat)
  case atStart => exact ⟨0, _, rfl, by omega, q1, fun j ⟨_, _, _, e⟩ => (by cases e), s1⟩
  case round =>
    obtain ⟨k, v, rfl, hk, hbel, hsl, hI⟩ := hrel
    clear s1 q1
    by_cases hlt : k < len
    · by_cases hlt2 : k < 12
      · have hlt3 : (k : Int) < 12 := by omega
        obtain ⟨b, off, ai, li, ci, zi, rfl, hb, hx, hrow⟩ := HR.out.at hlt
        have hx' := (hbel.cell (p := ⟨b, off + k, none⟩) hb).trans hx
        obtain ⟨c, hmin, hc1, hc2⟩ : ∃ c : Nat, (if n < li then (n : Int) else (li : Int)) = c ∧ c ≤ n ∧ c ≤ li := by
          by_cases h : n < li
          · exact ⟨n, by rw [if_pos h], by omega, by omega⟩
          · exact ⟨li, by rw [if_neg h], by omega, by omega⟩
        have hli : li ≤ ci := by
          rcases hrow with ⟨_, h1, h2, _⟩ | ⟨_, _, h1, _⟩ <;> omega
        have hcc : (c : Int) ≤ ci := by omega
        go_upto_region 8 with fail
        go_region
        clear hmin
        go_wp2_with fail
        have hzl : c ≤ zi.length := by have := hrow.len_le; omega
        have HX : Hid (∀ j, j < c → ∃ b2 o2, ai = some ⟨b2, o2, none⟩ ∧ b2 < w.heap.size ∧ w.cell? ⟨b2, o2 + j, none⟩ = some (.int .i64 (zi.getD j 0))) := Lib.hid (fun j hj => by
          obtain ⟨b2, o2, h1, h2, h3⟩ := hrow.at (j := j) (by omega)
          exact ⟨b2, o2, h1, h2, h3 j (by omega)⟩)
        clear hrow hx hx'
        go_loopw [9] (fun i wr => ∃ (k2 : Nat) (v : Value), i = .int .i64 k2 ∧ k2 ≤ c ∧ Below w.heap.size w wr ∧ (∀ j, sliceAt v j → w.heap.size ≤ j) ∧ Hid (RI wr w.heap.size n v (zi.take k2))) (fun i _ => (c - intOf i).toNat)
        case atStart => exact ⟨0, v, rfl, by omega, hbel.drew, hsl, Lib.hid hI.out.drew⟩
        case round =>
          obtain ⟨k2, v2, rfl, hk2, hbel2, hsl2, hI2⟩ := hrel
          clear hI hsl hbel
          by_cases hl2 : k2 < c
          · obtain ⟨b2, o2, rfl, hb2, hx2⟩ := HX.out k2 hl2
            have hx2' := (hbel2.cell (p := ⟨b2, o2 + k2, none⟩) hb2).trans hx2
            generalize hy : zi.getD k2 0 = y at hx2 hx2'
            go_wp2_with fail
            refine (iput w.heap.size n v2 _ y _ hI2 (by rw [List.length_take]; omega) (by omega)).mono ?_
            rintro e w3 ⟨rfl, v3, h3, t3⟩
            go_wp2_with fail
            refine ⟨⟨k2 + 1, v3, by go_num, by omega, Wrote.below hbel2 t3.out.wr (fun j hj => ?_), fun j hj => ?_, ?_⟩, by simp [intOf]; omega⟩
            · rcases hj with rfl | hj
              · exact Nat.le_refl _
              · exact hsl2 j hj
            · rcases t3.out.sub j hj with h | h
              · exact hsl2 j h
              · exact Nat.le_trans hbel2.size h
            · rw [← hy, take_snocD zi k2 (by omega)] at h3
              exact h3
          · obtain rfl : k2 = c := by omega
            have htl : (zi.take k2).length = k2 := by rw [List.length_take]; omega
            go_wp2_with fail
            refine (iall w.heap.size n v2 _ _ hI2 (by omega)).mono ?_
            rw [htl]
            rintro e wG ⟨aa, ca, rfl, hA, qA⟩
            have hIG : Hid (RI wG w.heap.size n v2 (zi.take k2)) := Lib.hid (hI2.out.below qA)
            have hlt0 := hI2.out.lt
            have hbelG := hbel2.trans (qA.mono hbel2.size)
            have hGs := qA.size
            clear hI2 qA
            generalize hG : wr.heap.size = G at hA hlt0 hGs
            go_wp2_with fail
            refine (ilen w.heap.size n v2 _ k2 _ hIG (by rw [htl])).mono ?_
            rintro e _ ⟨rfl, rfl⟩
            go_wp2_with fail
            go_loopw [11] (fun i wr => ∃ (k3 : Nat) (v : Value) (zs : List Int), i = .int .i64 k3 ∧ k3 ≤ k2 ∧ Below w.heap.size w wr ∧ G ≤ wr.heap.size ∧ (∀ j, sliceAt v j → w.heap.size ≤ j ∧ j < G) ∧ Hid (RI wr w.heap.size n v ((zi.take k2).drop k3)) ∧
              Hid (Ints wr G (.slice aa k2 ca) zs) ∧ zs.length = k2 ∧ Hid (∀ i, k3 ≤ i → i < k2 → zs.getD i 0 = zi.getD i 0)) (fun i _ => (k2 - intOf i).toNat)
            case atStart => exact ⟨0, v2, zi.take k2, rfl, by omega, hbelG, hGs, fun j hj => ⟨hsl2 j hj, (hlt0.2 j hj).1⟩, hIG, hA, htl, Lib.hid (fun i _ h2 => by rw [List.getD_eq_getElem?_getD, List.getElem?_take_of_lt h2, List.getD_eq_getElem?_getD])⟩
            case round =>
              obtain ⟨k3, v3, zs, rfl, hk3, hbel3, hG3, hsl3, hI3, hA3, hz3, ht3⟩ := hrel
              clear hIG hbelG hGs hA
              by_cases hl3 : k3 < k2
              · obtain ⟨b2, o2, rfl, hb2, hx2⟩ := HX.out k3 hl3
                obtain ⟨g, rfl, hg1, hg2, hca⟩ := hA3.out.formW (by omega)
                have hcA := hA3.out.cell k3 (by omega)
                have hfA := hA3.out.free k3
                rw [ht3.out k3 (Nat.le_refl _) hl3] at hcA
                have hI3' : Hid (RI wr w.heap.size n v3 (zi.getD k3 0 :: (zi.take k2).drop (k3 + 1))) := Lib.hid (by rw [← take_drop_cons zi k2 k3 hl3 hzl]; exact hI3.out)
                generalize hy : zi.getD k3 0 = y at hx2 hcA hI3'
                have hrG : w.heap.size < G := hlt0.1
                have hIs : Hid (RI (wr.setCell ⟨g, k3, none⟩ (.int .i64 (wrap64 (y + 1)))) w.heap.size n v3 (y :: (zi.take k2).drop (k3 + 1))) := Lib.hid (hI3'.out.kept (Wrote.set (fun k => k = g) wr g k3 _ rfl) (by omega) (fun j hj => by have := hsl3 j hj; omega))
                have hAs : Hid (Ints (wr.setCell ⟨g, k3, none⟩ (.int .i64 (wrap64 (y + 1)))) G (.slice (some ⟨g, 0, none⟩) k2 ca) (zs.set k3 (wrap64 (y + 1)))) := Lib.hid (hA3.out.set k3 _)
                have hbs : Hid (Below w.heap.size w (wr.setCell ⟨g, k3, none⟩ (.int .i64 (wrap64 (y + 1))))) := Lib.hid (hbel3.grown (setCell_grown wr g k3 _) hbel3.size (fun k hk => by cases hk; omega))
                go_wp2_with fail
                refine (itake w.heap.size n v3 y _ _ hIs).mono ?_
                rintro e w4 ⟨rfl, v4, h4, t4⟩
                have hb4 : Below w.heap.size w w4 := Wrote.below hbs.out t4.out.1 (fun j hj => by
                  rcases hj with rfl | hj
                  · exact Nat.le_refl _
                  · exact (hsl3 j hj).1)
                have hA4 : Hid (Ints w4 G (.slice (some ⟨g, 0, none⟩) k2 ca) (zs.set k3 (wrap64 (y + 1)))) := Lib.hid (hAs.out.wrote t4.out.1 (fun j hj hc => by
                  rcases hc with rfl | hc
                  · omega
                  · have := hsl3 j hc; omega))
                have hG4 : G ≤ w4.heap.size := by have := t4.out.1.size; simp at this; omega
                have hsub4 : ∀ j, sliceAt v4 j → w.heap.size ≤ j ∧ j < G := fun j hj => hsl3 j (t4.out.2 j hj)
                have hc4 := hA4.out.cell k3 (by rw [List.length_set]; omega)
                rw [List.getD_eq_getElem?_getD, List.getElem?_set_self (by omega), Option.getD_some] at hc4
                have hx4 := (hb4.cell (p := ⟨b2, o2 + k3, none⟩) hb2).trans hx2
                have hl5 : (k3 : Int) < k2 := by omega
                have hl6 : (k3 : Int) < ca := by omega
                clear hIs hAs hbs hI3 hI3' hA3 hcA hfA hbel3 hG3 hsl3 hx2
                go_upto_region 22 with fail
                go_region
                go_wp2_with fail
                refine ⟨⟨k3 + 1, v4, zs.set k3 (wrap64 (y + 1)), by go_num, by omega, hb4.drew, hG4, hsub4, Lib.hid h4.out.drew, Lib.hid hA4.out.drew, by rw [List.length_set]; exact hz3, Lib.hid (fun i h1 h2 => ?_)⟩, by simp [intOf]; omega⟩
                rw [← ht3.out i (by omega) h2, List.getD_eq_getElem?_getD, List.getElem?_set_ne (by omega), List.getD_eq_getElem?_getD]
              · obtain rfl : k3 = k2 := by omega
                have hI4 : Hid (RI wr w.heap.size n v3 []) := Lib.hid (by
                  have := hI3.out
                  rw [List.drop_of_length_le (by rw [htl]; omega)] at this
                  exact this)
                go_wp2_with fail
                refine (itake_none w.heap.size n v3 _ hI4).mono ?_
                rintro e _ ⟨rfl, rfl⟩
                go_wp2_with fail
                refine (ilen w.heap.size n v3 _ 0 _ hI4 rfl).mono ?_
                rintro e _ ⟨rfl, rfl⟩
                go_wp2_with fail
                exact ⟨⟨k + 1, v3, by go_num, by omega, hbel3, fun j hj => (hsl3 j hj).1, hI4⟩, by simp [intOf]; omega⟩
      · go_wp2_with fail
        refine (works15 _).mono ?_
        rintro e w9 ⟨rfl, q9⟩
        go_wp2_with fail
        go_returns
        exact ⟨rfl, hbel.trans (q9.mono hbel.size)⟩
    · go_wp2_with fail
      refine (works15 _).mono ?_
      rintro e w9 ⟨rfl, q9⟩
      go_wp2_with fail
      go_returns
      exact ⟨rfl, hbel.trans (q9.mono hbel.size)⟩

end Go.Proofs.Ytlcjgphibodjkaa
