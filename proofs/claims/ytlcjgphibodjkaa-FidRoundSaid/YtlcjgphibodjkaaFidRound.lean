/-
  FidRound: the walk.
-/
import Derived.Test.YtlcjgphibodjkaaFidBack
namespace Go.Proofs.Ytlcjgphibodjkaa
open Go.RowKit

def unset (g : Nat → Bool) (i : Nat) : Nat → Bool := fun j => if j = i then false else g j
theorem count_unset (p : Nat → Bool) {i : Nat} (hi : i < 256) (h : p i = true) : (((pl (unset p i)).countP id : Nat) : Int) = (pl p).countP id - 1 ∧ 1 ≤ (pl p).countP id := by
  have := count_clear p hi h
  rw [pl_set] at this
  exact this
theorem count_mark (p : Nat → Bool) {i : Nat} (hi : i < 256) (h : p i = false) : (((pl (mark p i)).countP id : Nat) : Int) = (pl p).countP id + 1 := by
  have := count_set p hi h
  rw [pl_set] at this
  exact this

set_option maxRecDepth 100000 in
set_option maxHeartbeats 1000000 in
theorem fidRound_walk (a0 : Option Addr) (len0 cap0 : Nat) (z0 : List Int) (w : World) (hr0 : IsRow .u16 w a0 len0 cap0 z0) :
    Calls Try.prog 5 #[.slice a0 len0 cap0] w fun e w' => e = .returned (.bool true) ∧ Below w.heap.size w w' := by
  have hlen := hr0.len_le.2
  unfold maxLen at hlen
  obtain ⟨za, hza, hz⟩ : ∃ za, za = ((List.replicate 256 false).map Value.bool).toArray ∧ ∀ w : World, (zeroValue TA).run Try.prog w = .ok (.agg za) w := ⟨_, rfl, zeroA⟩
  have HZA := Lib.hid hza
  clear hza
  go_enter Try.func5, Try.ntmps5
  go_wp2_with fail
  refine (works12 _).mono ?_
  rintro e w1 ⟨rfl, q1⟩
  go_wp2_with fail
  refine (fnw _).mono ?_
  rintro e w2 ⟨rfl, h2⟩
  obtain ⟨b, hb⟩ : ∃ b, b = w1.heap.size := ⟨_, rfl⟩
  have h3 : Hid (PoolIn w w2 b (pl fun _ => false) 0) := by
    rw [hb]
    exact Lib.hid ⟨h2.out.p, bthen q1 h2.out.bel, by exact q1.size⟩
  have h4 : Hid (PoolArr w (w2.alloc (.cells za TA)) b w2.heap.size (pl fun _ => false) 0 (pl fun _ => false)) := by
    rw [HZA.out]
    exact Lib.hid (PoolArr.made h3.out)
  rw [← hb]
  clear hb h2 q1 h3
  go_wp2_with fail
  obtain ⟨c, hc⟩ : ∃ c, c = w2.heap.size := ⟨_, rfl⟩
  rw [← hc] at h4
  rw [← hc]
  obtain ⟨wz, hwz⟩ : ∃ wz, wz = w2.alloc (.cells za TA) := ⟨_, rfl⟩
  rw [← hwz] at h4
  rw [← hwz]
  clear hc hwz hz HZA
  go_loopw [5, 6, 7] (fun l n i wr => ∃ (k last : Nat) (p : Nat → Bool), k ≤ 1000 ∧ last < 256 ∧ i = .int .i64 k ∧ l = .int .i64 last ∧ n = .int .i64 (((pl p).countP id : Nat) : Int) ∧ Hid (PoolArr w wr b c (pl p) ((last + 1) % 256) (pl p))) (fun _ _ i _ => 1000 - (intOf i).toNat)
  case atStart => exact ⟨0, 255, fun _ => false, by omega, by omega, rfl, rfl, by rw [show (pl fun _ => false).countP id = 0 by decide +kernel]; rfl, h4⟩
  case round =>
    obtain ⟨k, last, p, hk, hl, rfl, rfl, rfl, hp⟩ := hrel
    clear h4
    have hle : (pl p).countP id ≤ 256 := Nat.le_trans List.countP_le_length (by rw [pl_length]; omega)
    by_cases hlt : k < 1000
    · go_upto_if 22 with (fail)
      go_cut [5, 6, 7] (fun l n i wc => l = .int .i64 last ∧ i = .int .i64 k ∧ ∃ p : Nat → Bool, n = .int .i64 (((pl p).countP id : Nat) : Int) ∧ Hid (PoolArr w wc b c (pl p) ((last + 1) % 256) (pl p)))
      case first =>
        by_cases hkl : k < len0
        · obtain ⟨b2, off, rfl, hb2, hcl⟩ := hr0.at (j := k) (by omega)
          obtain ⟨x, hx⟩ : ∃ x : Int, x = z0.getD k 0 := ⟨_, rfl⟩
          have hcm := hcl k (by omega)
          rw [← hx] at hcm
          have hxw : 0 ≤ x ∧ x ≤ 65535 := by
            have hm : x ∈ z0 := by
              rw [hx, List.getD_eq_getElem?_getD, List.getElem?_eq_getElem (by have := hr0.len_le.1; omega)]
              exact List.getElem_mem _
            exact bounds_u16 (hr0.wf x hm)
          obtain ⟨hx1, hx2⟩ := hxw
          have hcw := (hp.out.bel.cell (p := ⟨b2, off + k, none⟩) hb2).trans hcm
          clear hcl hx hcm
          obtain ⟨i, hi⟩ : ∃ i : Nat, (i : Int) = x % 256 := ⟨(x % 256).toNat, by omega⟩
          have hi6 : i < 256 := by omega
          have hi7 : (i : Int) < 256 := by omega
          have HI := Lib.hid hi
          clear hi
          cases hg : p i with
          | true =>
            have hac := hp.out.a.cell i hi6
            rw [pl_get p hi6, hg] at hac
            have hE := freeE_nat p hi6
            rw [hg, if_pos rfl] at hE
            have hU := freeU_nat p hi6
            have HE := Lib.hid hE
            have HU : Hid (freeU (pl p) i = pl (unset p i)) := Lib.hid (by rw [hU, pl_set]; rfl)
            clear hE hU
            go_wp2_with fail
            rw [← HI.out]
            refine wp_region_noPanic ?_
            refine wp_region_held_drew (S := (fun w' => w'.cell? ⟨c, i, none⟩ = some (.bool true))) (by kernel_rfl) (hac) (fun hHeld => ?_)
            refine wpAnyH_takeD (i := 0) (v := ?_) rfl (by kernel_rfl) (by kernel_rfl) (by kernel_rfl) (fun _ _ _ h => h) (Or.inl ⟨by rfl, ?_⟩) hHeld ?_
            rotate_left
            · intro w hSw
              go_simp
              try with_reducible rfl
            try simp only [Act.put, List.setIfInBounds_toArray, List.set_cons_zero, List.set_cons_succ]
            refine wpAnyH_takeD (i := 1) (v := ?_) rfl (by kernel_rfl) (by kernel_rfl) (by kernel_rfl) (fun _ _ _ h => h) (Or.inl ⟨by rfl, ?_⟩) hHeld ?_
            rotate_left
            · intro w hSw
              go_simp
              try with_reducible rfl
            try simp only [Act.put, List.setIfInBounds_toArray, List.set_cons_zero, List.set_cons_succ]
            refine wpAnyH_takeD (i := 4) (v := ?_) rfl (by kernel_rfl) (by kernel_rfl) (by kernel_rfl) (fun _ _ _ h => h) (Or.inl ⟨by rfl, ?_⟩) hHeld ?_
            rotate_left
            · intro w hSw
              go_simp
              try with_reducible rfl
            try simp only [Act.put, List.setIfInBounds_toArray, List.set_cons_zero, List.set_cons_succ]
            refine wpAnyH_takeD (i := 5) (v := ?_) rfl (by kernel_rfl) (by kernel_rfl) (by kernel_rfl) (fun _ _ _ h => h) (Or.inl ⟨by rfl, ?_⟩) hHeld ?_
            rotate_left
            · intro w hSw
              go_simp
              try with_reducible rfl
            try simp only [Act.put, List.setIfInBounds_toArray, List.set_cons_zero, List.set_cons_succ]
            refine wpAnyH_takeD (i := 6) (v := ?_) rfl (by kernel_rfl) (by kernel_rfl) (by kernel_rfl) (fun _ _ _ h => h) (Or.inl ⟨by rfl, ?_⟩) hHeld ?_
            rotate_left
            · intro w hSw
              go_simp
              try with_reducible rfl
            try simp only [Act.put, List.setIfInBounds_toArray, List.set_cons_zero, List.set_cons_succ]
            refine wpAnyH_one (i := 2) rfl (by kernel_rfl) (fun K hK => ?_)
            go_simp
            refine (afr w b c _ _ _ _ i 0 _ (Lib.hid hp.out.drew) HE.out HU.out).mono ?_
            rintro e w9 ⟨rfl, h9⟩
            have hc9 : w9.cell? ⟨c, i, none⟩ = some (.bool true) := by rw [h9.out.a.cell i hi6, pl_get p hi6, hg]
            refine hK.out _ _ (hc9) (fun hHeld => ?_)
            clear hK K
            try simp only [Act.put, List.setIfInBounds_toArray, List.set_cons_zero, List.set_cons_succ]
            refine wpAnyH_takeD (i := 3) (v := ?_) rfl (by kernel_rfl) (by kernel_rfl) (by kernel_rfl) (fun _ _ _ h => h) (Or.inl ⟨by rfl, ?_⟩) hHeld ?_
            rotate_left
            · intro w hSw
              go_simp
              try with_reducible rfl
            try simp only [Act.put, List.setIfInBounds_toArray, List.set_cons_zero, List.set_cons_succ]
            refine wpAnyH_takeD (i := 7) (v := ?_) rfl (by kernel_rfl) (by kernel_rfl) (by kernel_rfl) (fun _ _ _ h => h) (Or.inl ⟨by rfl, ?_⟩) hHeld ?_
            rotate_left
            · intro w hSw
              go_simp
              try with_reducible rfl
            try simp only [Act.put, List.setIfInBounds_toArray, List.set_cons_zero, List.set_cons_succ]
            refine wpAnyH_rest (fun w' => PoolArr w w' b c (pl (unset p i)) ((last + 1) % 256) (pl p)) 8 _ (fun w' h => by rw [h.a.cell i hi6, pl_get p hi6, hg]) h9.out (by simp only [List.drop_succ_cons, List.drop_zero]) (by kernel_rfl) (by kernel_rfl) ?_
            refine wpQuiet_nil ?_
            intro w6 h6
            refine NoPanic.normal ?_
            have hac6 := h6.a.cell i hi6
            rw [pl_get p hi6, hg] at hac6
            have hfc := h6.a.free i
            have h7 := Lib.hid (show PoolArr w (w6.setCell ⟨c, i, none⟩ (.bool false)) b c (pl (unset p i)) ((last + 1) % 256) (pl (unset p i)) by have h := h6.set i false; rw [pl_set] at h; exact h)
            clear h6 hHeld hac
            go_wp2_with fail
            go_meet
            case rel => exact ⟨rfl, rfl, unset p i, by rw [(count_unset p hi6 hg).1], h7⟩
          | false =>
            have hac := hp.out.a.cell i hi6
            rw [pl_get p hi6, hg] at hac
            have hE := freeE_nat p hi6
            rw [hg, if_neg (by decide)] at hE
            have hU := freeU_nat p hi6
            have HE := Lib.hid hE
            have HU : Hid (freeU (pl p) i = pl p) := Lib.hid (by rw [hU, set_same _ _ _ (by rw [pl_get p hi6, hg])])
            clear hE hU
            go_wp2_with fail
            rw [← HI.out]
            refine wp_region_noPanic ?_
            refine wp_region_held_drew (S := (fun w' => w'.cell? ⟨c, i, none⟩ = some (.bool false))) (by kernel_rfl) (hac) (fun hHeld => ?_)
            refine wpAnyH_takeD (i := 0) (v := ?_) rfl (by kernel_rfl) (by kernel_rfl) (by kernel_rfl) (fun _ _ _ h => h) (Or.inl ⟨by rfl, ?_⟩) hHeld ?_
            rotate_left
            · intro w hSw
              go_simp
              try with_reducible rfl
            try simp only [Act.put, List.setIfInBounds_toArray, List.set_cons_zero, List.set_cons_succ]
            refine wpAnyH_takeD (i := 1) (v := ?_) rfl (by kernel_rfl) (by kernel_rfl) (by kernel_rfl) (fun _ _ _ h => h) (Or.inl ⟨by rfl, ?_⟩) hHeld ?_
            rotate_left
            · intro w hSw
              go_simp
              try with_reducible rfl
            try simp only [Act.put, List.setIfInBounds_toArray, List.set_cons_zero, List.set_cons_succ]
            refine wpAnyH_takeD (i := 4) (v := ?_) rfl (by kernel_rfl) (by kernel_rfl) (by kernel_rfl) (fun _ _ _ h => h) (Or.inl ⟨by rfl, ?_⟩) hHeld ?_
            rotate_left
            · intro w hSw
              go_simp
              try with_reducible rfl
            try simp only [Act.put, List.setIfInBounds_toArray, List.set_cons_zero, List.set_cons_succ]
            refine wpAnyH_takeD (i := 5) (v := ?_) rfl (by kernel_rfl) (by kernel_rfl) (by kernel_rfl) (fun _ _ _ h => h) (Or.inl ⟨by rfl, ?_⟩) hHeld ?_
            rotate_left
            · intro w hSw
              go_simp
              try with_reducible rfl
            try simp only [Act.put, List.setIfInBounds_toArray, List.set_cons_zero, List.set_cons_succ]
            refine wpAnyH_takeD (i := 6) (v := ?_) rfl (by kernel_rfl) (by kernel_rfl) (by kernel_rfl) (fun _ _ _ h => h) (Or.inl ⟨by rfl, ?_⟩) hHeld ?_
            rotate_left
            · intro w hSw
              go_simp
              try with_reducible rfl
            try simp only [Act.put, List.setIfInBounds_toArray, List.set_cons_zero, List.set_cons_succ]
            refine wpAnyH_one (i := 2) rfl (by kernel_rfl) (fun K hK => ?_)
            go_simp
            refine (afr w b c _ _ _ _ i 5 _ (Lib.hid hp.out.drew) HE.out HU.out).mono ?_
            rintro e w9 ⟨rfl, h9⟩
            have hc9 : w9.cell? ⟨c, i, none⟩ = some (.bool false) := by rw [h9.out.a.cell i hi6, pl_get p hi6, hg]
            refine hK.out _ _ (hc9) (fun hHeld => ?_)
            clear hK K
            try simp only [Act.put, List.setIfInBounds_toArray, List.set_cons_zero, List.set_cons_succ]
            refine wpAnyH_takeD (i := 3) (v := ?_) rfl (by kernel_rfl) (by kernel_rfl) (by kernel_rfl) (fun _ _ _ h => h) (Or.inl ⟨by rfl, ?_⟩) hHeld ?_
            rotate_left
            · intro w hSw
              go_simp
              try with_reducible rfl
            try simp only [Act.put, List.setIfInBounds_toArray, List.set_cons_zero, List.set_cons_succ]
            refine wpAnyH_takeD (i := 7) (v := ?_) rfl (by kernel_rfl) (by kernel_rfl) (by kernel_rfl) (fun _ _ _ h => h) (Or.inl ⟨by rfl, ?_⟩) hHeld ?_
            rotate_left
            · intro w hSw
              go_simp
              try with_reducible rfl
            try simp only [Act.put, List.setIfInBounds_toArray, List.set_cons_zero, List.set_cons_succ]
            refine wpAnyH_rest (fun w' => PoolArr w w' b c (pl p) ((last + 1) % 256) (pl p)) 8 _ (fun w' h => by rw [h.a.cell i hi6, pl_get p hi6, hg]) h9.out (by simp only [List.drop_succ_cons, List.drop_zero]) (by kernel_rfl) (by kernel_rfl) ?_
            refine wpQuiet_nil ?_
            intro w6 h6
            refine NoPanic.normal ?_
            have hac6 := h6.a.cell i hi6
            rw [pl_get p hi6, hg] at hac6
            have hfc := h6.a.free i
            have h7 := Lib.hid h6
            clear h6 hHeld hac
            go_wp2_with fail
            go_meet
            case rel => exact ⟨rfl, rfl, p, rfl, h7⟩
        · by_cases hpar : k % 2 = 0
          · have hpar2 : ((k : Int) % 2 == 0) = true := by simp; omega
            obtain ⟨i, hi⟩ : ∃ i : Nat, (i : Int) = ((last : Int) + 1) % 256 := ⟨(last + 1) % 256, by omega⟩
            have hi6 : i < 256 := by omega
            have hi7 : (i : Int) < 256 := by omega
            have HI := Lib.hid hi
            clear hi
            cases hg : p i with
            | true =>
              have hac := hp.out.a.cell i hi6
              rw [pl_get p hi6, hg] at hac
              have hE := freeE_nat p hi6
              rw [hg, if_pos rfl] at hE
              have hU := freeU_nat p hi6
              have HE := Lib.hid hE
              have HU : Hid (freeU (pl p) i = pl (unset p i)) := Lib.hid (by rw [hU, pl_set]; rfl)
              clear hE hU
              go_wp2_with fail
              rw [← HI.out]
              refine wp_region_noPanic ?_
              refine wp_region_held_drew (S := (fun w' => w'.cell? ⟨c, i, none⟩ = some (.bool true))) (by kernel_rfl) (hac) (fun hHeld => ?_)
              refine wpAnyH_takeD (i := 0) (v := ?_) rfl (by kernel_rfl) (by kernel_rfl) (by kernel_rfl) (fun _ _ _ h => h) (Or.inl ⟨by rfl, ?_⟩) hHeld ?_
              rotate_left
              · intro w hSw
                go_simp
                try with_reducible rfl
              try simp only [Act.put, List.setIfInBounds_toArray, List.set_cons_zero, List.set_cons_succ]
              refine wpAnyH_takeD (i := 1) (v := ?_) rfl (by kernel_rfl) (by kernel_rfl) (by kernel_rfl) (fun _ _ _ h => h) (Or.inl ⟨by rfl, ?_⟩) hHeld ?_
              rotate_left
              · intro w hSw
                go_simp
                try with_reducible rfl
              try simp only [Act.put, List.setIfInBounds_toArray, List.set_cons_zero, List.set_cons_succ]
              refine wpAnyH_takeD (i := 4) (v := ?_) rfl (by kernel_rfl) (by kernel_rfl) (by kernel_rfl) (fun _ _ _ h => h) (Or.inl ⟨by rfl, ?_⟩) hHeld ?_
              rotate_left
              · intro w hSw
                go_simp
                try with_reducible rfl
              try simp only [Act.put, List.setIfInBounds_toArray, List.set_cons_zero, List.set_cons_succ]
              refine wpAnyH_takeD (i := 5) (v := ?_) rfl (by kernel_rfl) (by kernel_rfl) (by kernel_rfl) (fun _ _ _ h => h) (Or.inl ⟨by rfl, ?_⟩) hHeld ?_
              rotate_left
              · intro w hSw
                go_simp
                try with_reducible rfl
              try simp only [Act.put, List.setIfInBounds_toArray, List.set_cons_zero, List.set_cons_succ]
              refine wpAnyH_takeD (i := 6) (v := ?_) rfl (by kernel_rfl) (by kernel_rfl) (by kernel_rfl) (fun _ _ _ h => h) (Or.inl ⟨by rfl, ?_⟩) hHeld ?_
              rotate_left
              · intro w hSw
                go_simp
                try with_reducible rfl
              try simp only [Act.put, List.setIfInBounds_toArray, List.set_cons_zero, List.set_cons_succ]
              refine wpAnyH_one (i := 2) rfl (by kernel_rfl) (fun K hK => ?_)
              go_simp
              refine (afr w b c _ _ _ _ i 0 _ (Lib.hid hp.out.drew) HE.out HU.out).mono ?_
              rintro e w9 ⟨rfl, h9⟩
              have hc9 : w9.cell? ⟨c, i, none⟩ = some (.bool true) := by rw [h9.out.a.cell i hi6, pl_get p hi6, hg]
              refine hK.out _ _ (hc9) (fun hHeld => ?_)
              clear hK K
              try simp only [Act.put, List.setIfInBounds_toArray, List.set_cons_zero, List.set_cons_succ]
              refine wpAnyH_takeD (i := 3) (v := ?_) rfl (by kernel_rfl) (by kernel_rfl) (by kernel_rfl) (fun _ _ _ h => h) (Or.inl ⟨by rfl, ?_⟩) hHeld ?_
              rotate_left
              · intro w hSw
                go_simp
                try with_reducible rfl
              try simp only [Act.put, List.setIfInBounds_toArray, List.set_cons_zero, List.set_cons_succ]
              refine wpAnyH_takeD (i := 7) (v := ?_) rfl (by kernel_rfl) (by kernel_rfl) (by kernel_rfl) (fun _ _ _ h => h) (Or.inl ⟨by rfl, ?_⟩) hHeld ?_
              rotate_left
              · intro w hSw
                go_simp
                try with_reducible rfl
              try simp only [Act.put, List.setIfInBounds_toArray, List.set_cons_zero, List.set_cons_succ]
              refine wpAnyH_rest (fun w' => PoolArr w w' b c (pl (unset p i)) ((last + 1) % 256) (pl p)) 8 _ (fun w' h => by rw [h.a.cell i hi6, pl_get p hi6, hg]) h9.out (by simp only [List.drop_succ_cons, List.drop_zero]) (by kernel_rfl) (by kernel_rfl) ?_
              refine wpQuiet_nil ?_
              intro w6 h6
              refine NoPanic.normal ?_
              have hac6 := h6.a.cell i hi6
              rw [pl_get p hi6, hg] at hac6
              have hfc := h6.a.free i
              have h7 := Lib.hid (show PoolArr w (w6.setCell ⟨c, i, none⟩ (.bool false)) b c (pl (unset p i)) ((last + 1) % 256) (pl (unset p i)) by have h := h6.set i false; rw [pl_set] at h; exact h)
              clear h6 hHeld hac
              go_wp2_with fail
              go_meet
              case rel => exact ⟨rfl, rfl, unset p i, by rw [(count_unset p hi6 hg).1], h7⟩
            | false =>
              have hac := hp.out.a.cell i hi6
              rw [pl_get p hi6, hg] at hac
              have hE := freeE_nat p hi6
              rw [hg, if_neg (by decide)] at hE
              have hU := freeU_nat p hi6
              have HE := Lib.hid hE
              have HU : Hid (freeU (pl p) i = pl p) := Lib.hid (by rw [hU, set_same _ _ _ (by rw [pl_get p hi6, hg])])
              clear hE hU
              go_wp2_with fail
              rw [← HI.out]
              refine wp_region_noPanic ?_
              refine wp_region_held_drew (S := (fun w' => w'.cell? ⟨c, i, none⟩ = some (.bool false))) (by kernel_rfl) (hac) (fun hHeld => ?_)
              refine wpAnyH_takeD (i := 0) (v := ?_) rfl (by kernel_rfl) (by kernel_rfl) (by kernel_rfl) (fun _ _ _ h => h) (Or.inl ⟨by rfl, ?_⟩) hHeld ?_
              rotate_left
              · intro w hSw
                go_simp
                try with_reducible rfl
              try simp only [Act.put, List.setIfInBounds_toArray, List.set_cons_zero, List.set_cons_succ]
              refine wpAnyH_takeD (i := 1) (v := ?_) rfl (by kernel_rfl) (by kernel_rfl) (by kernel_rfl) (fun _ _ _ h => h) (Or.inl ⟨by rfl, ?_⟩) hHeld ?_
              rotate_left
              · intro w hSw
                go_simp
                try with_reducible rfl
              try simp only [Act.put, List.setIfInBounds_toArray, List.set_cons_zero, List.set_cons_succ]
              refine wpAnyH_takeD (i := 4) (v := ?_) rfl (by kernel_rfl) (by kernel_rfl) (by kernel_rfl) (fun _ _ _ h => h) (Or.inl ⟨by rfl, ?_⟩) hHeld ?_
              rotate_left
              · intro w hSw
                go_simp
                try with_reducible rfl
              try simp only [Act.put, List.setIfInBounds_toArray, List.set_cons_zero, List.set_cons_succ]
              refine wpAnyH_takeD (i := 5) (v := ?_) rfl (by kernel_rfl) (by kernel_rfl) (by kernel_rfl) (fun _ _ _ h => h) (Or.inl ⟨by rfl, ?_⟩) hHeld ?_
              rotate_left
              · intro w hSw
                go_simp
                try with_reducible rfl
              try simp only [Act.put, List.setIfInBounds_toArray, List.set_cons_zero, List.set_cons_succ]
              refine wpAnyH_takeD (i := 6) (v := ?_) rfl (by kernel_rfl) (by kernel_rfl) (by kernel_rfl) (fun _ _ _ h => h) (Or.inl ⟨by rfl, ?_⟩) hHeld ?_
              rotate_left
              · intro w hSw
                go_simp
                try with_reducible rfl
              try simp only [Act.put, List.setIfInBounds_toArray, List.set_cons_zero, List.set_cons_succ]
              refine wpAnyH_one (i := 2) rfl (by kernel_rfl) (fun K hK => ?_)
              go_simp
              refine (afr w b c _ _ _ _ i 5 _ (Lib.hid hp.out.drew) HE.out HU.out).mono ?_
              rintro e w9 ⟨rfl, h9⟩
              have hc9 : w9.cell? ⟨c, i, none⟩ = some (.bool false) := by rw [h9.out.a.cell i hi6, pl_get p hi6, hg]
              refine hK.out _ _ (hc9) (fun hHeld => ?_)
              clear hK K
              try simp only [Act.put, List.setIfInBounds_toArray, List.set_cons_zero, List.set_cons_succ]
              refine wpAnyH_takeD (i := 3) (v := ?_) rfl (by kernel_rfl) (by kernel_rfl) (by kernel_rfl) (fun _ _ _ h => h) (Or.inl ⟨by rfl, ?_⟩) hHeld ?_
              rotate_left
              · intro w hSw
                go_simp
                try with_reducible rfl
              try simp only [Act.put, List.setIfInBounds_toArray, List.set_cons_zero, List.set_cons_succ]
              refine wpAnyH_takeD (i := 7) (v := ?_) rfl (by kernel_rfl) (by kernel_rfl) (by kernel_rfl) (fun _ _ _ h => h) (Or.inl ⟨by rfl, ?_⟩) hHeld ?_
              rotate_left
              · intro w hSw
                go_simp
                try with_reducible rfl
              try simp only [Act.put, List.setIfInBounds_toArray, List.set_cons_zero, List.set_cons_succ]
              refine wpAnyH_rest (fun w' => PoolArr w w' b c (pl p) ((last + 1) % 256) (pl p)) 8 _ (fun w' h => by rw [h.a.cell i hi6, pl_get p hi6, hg]) h9.out (by simp only [List.drop_succ_cons, List.drop_zero]) (by kernel_rfl) (by kernel_rfl) ?_
              refine wpQuiet_nil ?_
              intro w6 h6
              refine NoPanic.normal ?_
              have hac6 := h6.a.cell i hi6
              rw [pl_get p hi6, hg] at hac6
              have hfc := h6.a.free i
              have h7 := Lib.hid h6
              clear h6 hHeld hac
              go_wp2_with fail
              go_meet
              case rel => exact ⟨rfl, rfl, p, rfl, h7⟩
          · have hpar2 : ((k : Int) % 2 == 0) = false := by simp; omega
            go_wp2_with fail
            go_meet
            case rel => exact ⟨rfl, rfl, p, rfl, hp⟩
      case rest =>
        obtain ⟨rfl, rfl, p, rfl, hp⟩ := hcut
        obtain ⟨i, hi⟩ : ∃ i : Nat, i = (last + 1) % 256 := ⟨_, rfl⟩
        have HI : Hid ((i : Int) = ((last : Int) + 1) % 256) := Lib.hid (by omega)
        have hi6 : i < 256 := by omega
        have hi7 : (i : Int) < 256 := by omega
        have hi8 : (0 : Int) ≤ i := by omega
        rw [← hi] at hp
        clear hi
        have hle : (pl p).countP id ≤ 256 := Nat.le_trans List.countP_le_length (by rw [pl_length]; omega)
        go_wp2_with fail
        rw [← HI.out]
        cases hg : p i with
        | true =>
          refine (atk w b c (pl p) (pl p) (pl p) i i (-1) _ hp hi6 (by unfold takeV; rw [pl_get p hi6, hg]; rfl) (set_same _ _ _ (by rw [pl_get p hi6, hg])) (by unfold takeN; rw [pl_get p hi6, hg]; rfl)).mono ?_
          rintro e w9 ⟨rfl, h9⟩
          have hac := h9.out.a.cell i hi6
          rw [pl_get p hi6, hg] at hac
          have hin := Lib.hid (show PoolArr w w9 b c (pl p) ((last + 1) % 256) (pl p) by have e : (last + 1) % 256 = i := by have := HI.out; omega
                                                                                         rw [e]; exact h9.out)
          go_wp2_with fail
          refine (aus w b c _ _ _ _ _ h9 rfl).mono ?_
          rintro e _ ⟨rfl, rfl⟩
          go_wp2_with fail
          exact ⟨⟨k + 1, last, p, by omega, by omega, by go_num, rfl, rfl, hin⟩, by simp [intOf]; omega⟩
        | false =>
          refine (atk w b c (pl p) (pl (mark p i)) (pl p) i ((i + 1) % 256) i _ hp hi6 (by unfold takeV; rw [pl_get p hi6, hg]; rfl) (pl_set _ _ _) (by unfold takeN; rw [pl_get p hi6, hg]; rfl)).mono ?_
          rintro e w9 ⟨rfl, h9⟩
          have hac := h9.out.a.cell i hi6
          rw [pl_get p hi6, hg] at hac
          have hfc := h9.out.a.free i
          have hin := Lib.hid (show PoolArr w (w9.setCell ⟨c, i, none⟩ (.bool true)) b c (pl (mark p i)) ((i + 1) % 256) (pl (mark p i)) by have h := h9.out.set i true; rw [pl_set] at h; exact h)
          have HC := Lib.hid (count_mark p hi6 hg)
          go_wp2_with fail
          refine (aus w b c _ _ _ _ _ hin HC.out).mono ?_
          rintro e _ ⟨rfl, rfl⟩
          go_wp2_with fail
          exact ⟨⟨k + 1, i, mark p i, by omega, by omega, by go_num, rfl, by rw [HC.out], hin⟩, by simp [intOf]; omega⟩
    · obtain rfl : k = 1000 := by omega
      go_wp2_with fail
      go_returns
      exact ⟨rfl, hp.out.bel⟩

end Go.Proofs.Ytlcjgphibodjkaa
