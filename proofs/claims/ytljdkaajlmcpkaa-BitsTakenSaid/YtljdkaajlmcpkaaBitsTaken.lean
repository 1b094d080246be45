/-
  BitsTaken: the walk. (Printed by mktaken.py.)
-/
import Derived.Test.YtljdkaajlmcpkaaRR
import Derived.Deep.CutBlock
namespace Go.Proofs.Ytljdkaajlmcpkaa
open Go.RowKit

set_option maxRecDepth 100000 in
set_option maxHeartbeats 4000000 in
theorem bitsTaken_core (f s : ByteArray) (hc : ((f.size : Int) ≤ 60 ∧ s = f) ∨ ((60 : Int) < (f.size : Int) ∧ f.extract 0 60 = s)) (hs : s.size ≤ 60) (a1 : Option Addr) (len1 cap1 : Nat) (w : World) (hr1 : IsActs3 w a1 len1) :
    Calls Try.prog 10 #[.string f, .slice a1 len1 cap1] w fun e w' => e = .returned (.bool true) ∧ Below w.heap.size w w' := by
  have HR := Lib.hid hr1
  clear hr1
  have hsl : s.data.toList.length = s.size := len_bytes s
  go_enter Try.func10, Try.ntmps10
  rcases hc with ⟨hc, rfl⟩ | ⟨hc, hc2⟩
  all_goals
    go_wp2_with fail
    refine (rdNew_is s (by omega) w).mono ?_
    rintro e w1 ⟨r, g, rfl, k1, k2, k3, k4⟩
    have K1 := Lib.hid k1
    have K4 := Lib.hid k4
    clear k1 k4
    go_wp2_with fail
    refine (rrNew_is s (by omega) w1).mono ?_
    rintro e w2 ⟨r2, rfl, j1, j2, j3⟩
    obtain ⟨B, hB⟩ : ∃ B, w1.heap.size = B := ⟨_, rfl⟩
    have R0 : Hid (RR w w2 r g B r2 s.data.toList 0 0) := Lib.hid (by
      obtain ⟨c, hS⟩ := K1.out.S
      have := hS.lt
      have := K1.out.lt
      rw [← hB]
      exact ⟨K1.out.kept j3, j1, K4.out.trans (j3.mono K4.out.size), k2, k3, by omega, by omega, j2⟩)
    clear j1 j2 j3 hB K1 K4 k2 k3
    go_upto_block 0 with fail
    go_cut [] (fun wc => ∃ a, a ≤ 8 * s.data.toList.length ∧ Hid (RR w wc r g B r2 s.data.toList a a))
    case first =>
      go_wp2_with fail
      go_loopw [7] (fun iv wr => ∃ (i a : Nat), i ≤ 40 ∧ iv = .int .i64 i ∧ a ≤ 8 * s.data.toList.length ∧ Hid (RR w wr r g B r2 s.data.toList a a)) (fun iv _ => 40 - (intOf iv).toNat)
      case atStart => exact ⟨0, 0, by omega, rfl, by omega, R0⟩
      case round =>
        obtain ⟨i, a, hi40, rfl, ha, HB⟩ := hrel
        clear R0
        by_cases h1 : i < len1
        · have h1' : (i : Int) < len1 := by omega
          by_cases h2 : i < 40
          · have h2' : (i : Int) < 40 := by omega
            obtain ⟨b, off, t, n, z, rfl, hb, c0, c1, c2, ht, hn, hz⟩ := HR.out i h1
            have hd := fun wz (h : Below w.heap.size w wz) => And.intro ((h.cell (p := ⟨b, off + i * 3, none⟩) hb).trans c0) (And.intro ((h.cell (p := ⟨b, off + i * 3 + 1, none⟩) hb).trans c1) ((h.cell (p := ⟨b, off + i * 3 + 2, none⟩) hb).trans c2))
            obtain ⟨d0, d1, d2⟩ := hd wr HB.out.bel
            obtain ⟨bx, hbx⟩ : ∃ bx, wr.heap.size = bx := ⟨_, rfl⟩
            obtain ⟨wx, hwx⟩ : ∃ wx, wr.alloc (.cells #[.string t, .int .u64 n, .int .i64 z] 46) = wx := ⟨_, rfl⟩
            have X0 : Hid (RX w wx r g B r2 s.data.toList a a bx [.string t, .int .u64 n, .int .i64 z] 46) := Lib.hid (by rw [← hwx, ← hbx]; exact HB.out.block _ _)
            have hx1 := X0.out.X.cell 1 rfl
            have hx2 := X0.out.X.cell 2 rfl
            obtain ⟨q, hq⟩ : ∃ q, n.tmod 4 = q := ⟨_, rfl⟩
            clear hd c0 c1 c2 HB
            by_cases hq0 : q = 0
            · subst hq0
              obtain ⟨x, ev, a', ha', tA, tB⟩ := both_bytes s.data.toList a z (by omega) ha
              have TA := Lib.hid tA
              have TB := Lib.hid tB
              clear tA tB
              go_wp2_with fail
              refine (TA.out _ _ _ _ _ _ _ _ _ _ X0).mono ?_
              rintro e w4 ⟨rfl, X4⟩
              have hy2 := X4.out.X.cell 2 rfl
              clear X0 TA hx1 hx2
              go_wp2_with fail
              refine (TB.out _ _ _ _ _ _ _ _ _ _ X4).mono ?_
              rintro e w5 ⟨rfl, X5⟩
              clear X4 TB hy2
              go_wp2_with fail
              exact ⟨⟨i + 1, a', by omega, by go_num, ha', Lib.hid X5.out.r⟩, by simp [intOf]; omega⟩
            · obtain ⟨x, ev, a', ha', tA, tB⟩ := both_take s.data.toList a z (by omega) ha
              have TA := Lib.hid tA
              have TB := Lib.hid tB
              clear tA tB
              go_wp2_with fail
              refine (TA.out _ _ _ _ _ _ _ _ _ _ X0).mono ?_
              rintro e w4 ⟨rfl, X4⟩
              have hy2 := X4.out.X.cell 2 rfl
              clear X0 TA hx1 hx2
              go_wp2_with fail
              refine (TB.out _ _ _ _ _ _ _ _ _ _ X4).mono ?_
              rintro e w5 ⟨rfl, X5⟩
              clear X4 TB hy2
              have XD : Hid (RX w w5.drew r g B r2 s.data.toList a' a' bx [.string t, .int .u64 n, .int .i64 z] 46) := Lib.hid X5.out.drew
              obtain ⟨m, hm⟩ : ∃ m, 8 * s.data.toList.length - a' = m := ⟨_, rfl⟩
              obtain ⟨av, cv, hcv⟩ := RX.cell XD m hm
              clear X5
              go_wp2_with fail
              refine wp_region_noPanic ?_
              refine wp_region_held_drew (S := (fun w' => w'.cell? ⟨r2, 0, none⟩ = some (.slice av m cv))) (by kernel_rfl) (hcv) (fun hHeld => ?_)
              refine wpAnyH_takeD (i := 0) (v := ?_) rfl (by kernel_rfl) (by kernel_rfl) (by kernel_rfl) (fun _ _ _ h => h) (Or.inl ⟨by rfl, ?_⟩) hHeld ?_
              rotate_left
              · rintro w hSw
                go_simp
                try with_reducible rfl
              try simp only [Act.put, List.setIfInBounds_toArray, List.set_cons_zero, List.set_cons_succ]
              refine wpAnyH_takeD (i := 1) (v := ?_) rfl (by kernel_rfl) (by kernel_rfl) (by kernel_rfl) (fun _ _ _ h => h) (Or.inl ⟨by rfl, ?_⟩) hHeld ?_
              rotate_left
              · rintro w hSw
                go_simp
                try with_reducible rfl
              try simp only [Act.put, List.setIfInBounds_toArray, List.set_cons_zero, List.set_cons_succ]
              refine wpAnyH_takeD (i := 2) (v := ?_) rfl (by kernel_rfl) (by kernel_rfl) (by kernel_rfl) (fun _ _ _ h => h) (Or.inl ⟨by rfl, ?_⟩) hHeld ?_
              rotate_left
              · rintro w hSw
                go_simp
                try with_reducible rfl
              try simp only [Act.put, List.setIfInBounds_toArray, List.set_cons_zero, List.set_cons_succ]
              refine wpAnyH_takeD (i := 3) (v := ?_) rfl (by kernel_rfl) (by kernel_rfl) (by kernel_rfl) (fun _ _ _ h => h) (Or.inl ⟨by rfl, ?_⟩) hHeld ?_
              rotate_left
              · rintro w hSw
                go_simp
                try with_reducible rfl
              try simp only [Act.put, List.setIfInBounds_toArray, List.set_cons_zero, List.set_cons_succ]
              refine wpAnyH_takeD (i := 4) (v := ?_) rfl (by kernel_rfl) (by kernel_rfl) (by kernel_rfl) (fun _ _ _ h => h) (Or.inl ⟨by rfl, ?_⟩) hHeld ?_
              rotate_left
              · rintro w hSw
                go_simp
                try with_reducible rfl
              try simp only [Act.put, List.setIfInBounds_toArray, List.set_cons_zero, List.set_cons_succ]
              refine wpAnyH_takeD (i := 5) (v := ?_) rfl (by kernel_rfl) (by kernel_rfl) (by kernel_rfl) (fun _ _ _ h => h) (Or.inl ⟨by rfl, ?_⟩) hHeld ?_
              rotate_left
              · rintro w hSw
                go_simp
                try with_reducible rfl
              try simp only [Act.put, List.setIfInBounds_toArray, List.set_cons_zero, List.set_cons_succ]
              refine wpAnyH_takeD (i := 6) (v := ?_) rfl (by kernel_rfl) (by kernel_rfl) (by kernel_rfl) (fun _ _ _ h => h) (Or.inl ⟨by rfl, ?_⟩) hHeld ?_
              rotate_left
              · rintro w hSw
                go_simp
                try with_reducible rfl
              try simp only [Act.put, List.setIfInBounds_toArray, List.set_cons_zero, List.set_cons_succ]
              refine wpAnyH_takeD (i := 7) (v := ?_) rfl (by kernel_rfl) (by kernel_rfl) (by kernel_rfl) (fun _ _ _ h => h) (Or.inl ⟨by rfl, ?_⟩) hHeld ?_
              rotate_left
              · rintro w hSw
                go_simp
                try with_reducible rfl
              try simp only [Act.put, List.setIfInBounds_toArray, List.set_cons_zero, List.set_cons_succ]
              refine wpAnyH_takeD (i := 8) (v := ?_) rfl (by kernel_rfl) (by kernel_rfl) (by kernel_rfl) (fun _ _ _ h => h) (Or.inl ⟨by rfl, ?_⟩) hHeld ?_
              rotate_left
              · rintro w hSw
                go_simp
                try with_reducible rfl
              try simp only [Act.put, List.setIfInBounds_toArray, List.set_cons_zero, List.set_cons_succ]
              refine wpAnyH_takeD (i := 9) (v := ?_) rfl (by kernel_rfl) (by kernel_rfl) (by kernel_rfl) (fun _ _ _ h => h) (Or.inl ⟨by rfl, ?_⟩) hHeld ?_
              rotate_left
              · rintro w hSw
                go_simp
                try with_reducible rfl
              try simp only [Act.put, List.setIfInBounds_toArray, List.set_cons_zero, List.set_cons_succ]
              refine wpAnyH_takeD (i := 11) (v := ?_) rfl (by kernel_rfl) (by kernel_rfl) (by kernel_rfl) (fun _ _ _ h => h) (Or.inl ⟨by rfl, ?_⟩) hHeld ?_
              rotate_left
              · rintro w hSw
                go_simp
                try with_reducible rfl
              try simp only [Act.put, List.setIfInBounds_toArray, List.set_cons_zero, List.set_cons_succ]
              refine wpAnyH_takeD (i := 12) (v := ?_) rfl (by kernel_rfl) (by kernel_rfl) (by kernel_rfl) (fun _ _ _ h => h) (Or.inl ⟨by rfl, ?_⟩) hHeld ?_
              rotate_left
              · rintro w hSw
                go_simp
                try with_reducible rfl
              try simp only [Act.put, List.setIfInBounds_toArray, List.set_cons_zero, List.set_cons_succ]
              refine wpAnyH_takeD (i := 13) (v := ?_) rfl (by kernel_rfl) (by kernel_rfl) (by kernel_rfl) (fun _ _ _ h => h) (Or.inl ⟨by rfl, ?_⟩) hHeld ?_
              rotate_left
              · rintro w hSw
                go_simp
                try with_reducible rfl
              try simp only [Act.put, List.setIfInBounds_toArray, List.set_cons_zero, List.set_cons_succ]
              refine wpAnyH_takeD (i := 14) (v := ?_) rfl (by kernel_rfl) (by kernel_rfl) (by kernel_rfl) (fun _ _ _ h => h) (Or.inl ⟨by rfl, ?_⟩) hHeld ?_
              rotate_left
              · rintro w hSw
                go_simp
                try with_reducible rfl
              try simp only [Act.put, List.setIfInBounds_toArray, List.set_cons_zero, List.set_cons_succ]
              refine wpAnyH_takeD (i := 15) (v := ?_) rfl (by kernel_rfl) (by kernel_rfl) (by kernel_rfl) (fun _ _ _ h => h) (Or.inl ⟨by rfl, ?_⟩) hHeld ?_
              rotate_left
              · rintro w hSw
                go_simp
                try with_reducible rfl
              try simp only [Act.put, List.setIfInBounds_toArray, List.set_cons_zero, List.set_cons_succ]
              refine wpAnyH_one (i := 10) rfl (by kernel_rfl) (fun K hK => ?_)
              go_simp
              refine (RX.left XD (by omega) m (by omega)).mono ?_
              rintro e w6 ⟨rfl, q6⟩
              refine hK.out _ _ ((q6.cell (p := ⟨r2, 0, none⟩) (by obtain ⟨x, c', hR, _⟩ := XD.out.r.R.ex; exact hR.lt)).trans hcv) (fun hHeld => ?_)
              clear hK K
              try simp only [Act.put, List.setIfInBounds_toArray, List.set_cons_zero, List.set_cons_succ]
              have X6 := Lib.hid (XD.out.below q6)
              clear q6 XD
              refine wpAnyH_takeD (i := 16) (v := ?_) rfl (by kernel_rfl) (by kernel_rfl) (by kernel_rfl) (fun _ _ _ h => h) (Or.inl ⟨by rfl, ?_⟩) hHeld ?_
              rotate_left
              · rintro w hSw
                go_simp
                try with_reducible rfl
              try simp only [Act.put, List.setIfInBounds_toArray, List.set_cons_zero, List.set_cons_succ]
              refine wpAnyH_takeD (i := 17) (v := ?_) rfl (by kernel_rfl) (by kernel_rfl) (by kernel_rfl) (fun _ _ _ h => h) (Or.inl ⟨by rfl, ?_⟩) hHeld ?_
              rotate_left
              · rintro w hSw
                go_simp
                try with_reducible rfl
              try simp only [Act.put, List.setIfInBounds_toArray, List.set_cons_zero, List.set_cons_succ]
              refine wpAnyH_done (by kernel_rfl) ?_ _
              refine NoPanic.normal ?_
              clear hHeld hcv
              go_wp2_with fail
              exact ⟨⟨i + 1, a', by omega, by go_num, ha', Lib.hid X6.out.r⟩, by simp [intOf]; omega⟩
          · have h2' : ¬ (i : Int) < 40 := by omega
            go_wp2_with fail
            go_meet
            case rel => exact ⟨a, ha, HB⟩
        · have h1' : ¬ (i : Int) < len1 := by omega
          go_wp2_with fail
          go_meet
          case rel => exact ⟨a, ha, HB⟩
    case rest =>
      obtain ⟨a, ha, HB⟩ := hcut
      clear R0
      have XD : Hid (RX w (wc.drew.alloc (.cells #[] 0)) r g B r2 s.data.toList a a wc.drew.heap.size [] 0) := Lib.hid ((HB.out.below (Below.refl _ _).drew).block [] 0)
      clear XD
      have RD : Hid (RR w wc.drew r g B r2 s.data.toList a a) := Lib.hid (HB.out.below (Below.refl _ _).drew)
      obtain ⟨m, hm⟩ : ∃ m, 8 * s.data.toList.length - a = m := ⟨_, rfl⟩
      obtain ⟨av, cv, hcv⟩ : ∃ x c, wc.drew.cell? ⟨r2, 0, none⟩ = some (.slice x m c) := by
        obtain ⟨x, c, hR, _⟩ := RD.out.R.ex
        have e : ((ubits s.data.toList).drop a).length = m := by rw [List.length_drop, ubits_length]; exact hm
        rw [e] at hR
        exact ⟨x, c, hR.cell 0 rfl⟩
      have hr2 : r2 < wc.drew.heap.size := by obtain ⟨x, c', hR, _⟩ := RD.out.R.ex; exact hR.lt
      clear HB
      go_wp2_with fail
      refine wp_region_noPanic ?_
      refine wp_region_held_drew (S := (fun w' => w'.cell? ⟨r2, 0, none⟩ = some (.slice av m cv))) (by kernel_rfl) (hcv) (fun hHeld => ?_)
      refine wpAnyH_takeD (i := 0) (v := ?_) rfl (by kernel_rfl) (by kernel_rfl) (by kernel_rfl) (fun _ _ _ h => h) (Or.inl ⟨by rfl, ?_⟩) hHeld ?_
      rotate_left
      · rintro w hSw
        go_simp
        try with_reducible rfl
      try simp only [Act.put, List.setIfInBounds_toArray, List.set_cons_zero, List.set_cons_succ]
      refine wpAnyH_takeD (i := 2) (v := ?_) rfl (by kernel_rfl) (by kernel_rfl) (by kernel_rfl) (fun _ _ _ h => h) (Or.inl ⟨by rfl, ?_⟩) hHeld ?_
      rotate_left
      · rintro w hSw
        go_simp
        try with_reducible rfl
      try simp only [Act.put, List.setIfInBounds_toArray, List.set_cons_zero, List.set_cons_succ]
      refine wpAnyH_takeD (i := 3) (v := ?_) rfl (by kernel_rfl) (by kernel_rfl) (by kernel_rfl) (fun _ _ _ h => h) (Or.inl ⟨by rfl, ?_⟩) hHeld ?_
      rotate_left
      · rintro w hSw
        go_simp
        try with_reducible rfl
      try simp only [Act.put, List.setIfInBounds_toArray, List.set_cons_zero, List.set_cons_succ]
      refine wpAnyH_takeD (i := 4) (v := ?_) rfl (by kernel_rfl) (by kernel_rfl) (by kernel_rfl) (fun _ _ _ h => h) (Or.inl ⟨by rfl, ?_⟩) hHeld ?_
      rotate_left
      · rintro w hSw
        go_simp
        try with_reducible rfl
      try simp only [Act.put, List.setIfInBounds_toArray, List.set_cons_zero, List.set_cons_succ]
      refine wpAnyH_takeD (i := 5) (v := ?_) rfl (by kernel_rfl) (by kernel_rfl) (by kernel_rfl) (fun _ _ _ h => h) (Or.inl ⟨by rfl, ?_⟩) hHeld ?_
      rotate_left
      · rintro w hSw
        go_simp
        try with_reducible rfl
      try simp only [Act.put, List.setIfInBounds_toArray, List.set_cons_zero, List.set_cons_succ]
      refine wpAnyH_takeD (i := 6) (v := ?_) rfl (by kernel_rfl) (by kernel_rfl) (by kernel_rfl) (fun _ _ _ h => h) (Or.inl ⟨by rfl, ?_⟩) hHeld ?_
      rotate_left
      · rintro w hSw
        go_simp
        try with_reducible rfl
      try simp only [Act.put, List.setIfInBounds_toArray, List.set_cons_zero, List.set_cons_succ]
      refine wpAnyH_one (i := 1) rfl (by kernel_rfl) (fun K hK => ?_)
      go_simp
      refine (rdLeft_is r g s.data.toList a wc.drew RD.out.A (by omega) m (by omega)).mono ?_
      rintro e w6 ⟨rfl, q6⟩
      refine hK.out _ _ ((q6.cell (p := ⟨r2, 0, none⟩) hr2).trans hcv) (fun hHeld => ?_)
      clear hK K
      try simp only [Act.put, List.setIfInBounds_toArray, List.set_cons_zero, List.set_cons_succ]
      have R6 := Lib.hid (RD.out.below q6)
      have hr6 : r2 < w6.heap.size := Nat.lt_of_lt_of_le hr2 q6.size
      clear q6 RD
      refine wpAnyH_takeD (i := 7) (v := ?_) rfl (by kernel_rfl) (by kernel_rfl) (by kernel_rfl) (fun _ _ _ h => h) (Or.inl ⟨by rfl, ?_⟩) hHeld ?_
      rotate_left
      · rintro w hSw
        go_simp
        try with_reducible rfl
      try simp only [Act.put, List.setIfInBounds_toArray, List.set_cons_zero, List.set_cons_succ]
      refine wpAnyH_takeD (i := 8) (v := ?_) rfl (by kernel_rfl) (by kernel_rfl) (by kernel_rfl) (fun _ _ _ h => h) (Or.inl ⟨by rfl, ?_⟩) hHeld ?_
      rotate_left
      · rintro w hSw
        go_simp
        try with_reducible rfl
      try simp only [Act.put, List.setIfInBounds_toArray, List.set_cons_zero, List.set_cons_succ]
      refine wpAnyH_one (i := 9) rfl (by kernel_rfl) (fun K hK => ?_)
      go_simp
      refine (works01 w6).mono ?_
      rintro e w7 ⟨rfl, q7⟩
      refine hK.out _ _ ((q7.cell (p := ⟨r2, 0, none⟩) hr6).trans hHeld) (fun hHeld => ?_)
      clear hK K
      try simp only [Act.put, List.setIfInBounds_toArray, List.set_cons_zero, List.set_cons_succ]
      have B7 := Lib.hid (bthen R6.out.bel q7)
      clear q7 R6
      refine wpAnyH_takeD (i := 10) (v := ?_) rfl (by kernel_rfl) (by kernel_rfl) (by kernel_rfl) (fun _ _ _ h => h) (Or.inl ⟨by rfl, ?_⟩) hHeld ?_
      rotate_left
      · rintro w hSw
        go_simp
        try with_reducible rfl
      try simp only [Act.put, List.setIfInBounds_toArray, List.set_cons_zero, List.set_cons_succ]
      refine wpAnyH_takeD (i := 11) (v := ?_) rfl (by kernel_rfl) (by kernel_rfl) (by kernel_rfl) (fun _ _ _ h => h) (Or.inl ⟨by rfl, ?_⟩) hHeld ?_
      rotate_left
      · rintro w hSw
        go_simp
        try with_reducible rfl
      try simp only [Act.put, List.setIfInBounds_toArray, List.set_cons_zero, List.set_cons_succ]
      refine wpAnyH_done (by kernel_rfl) ?_ _
      refine NoPanic.normal ?_
      clear hHeld hcv
      go_wp2_with fail
      go_returns
      exact ⟨rfl, B7.out⟩
theorem bitsTaken_walk (f : ByteArray) (a1 : Option Addr) (len1 cap1 : Nat) (w : World) (hr1 : IsActs3 w a1 len1) :
    Calls Try.prog 10 #[.string f, .slice a1 len1 cap1] w fun e w' => e = .returned (.bool true) ∧ Below w.heap.size w w' := by
  obtain ⟨s, hc, hs⟩ := cut_str f 60
  exact bitsTaken_core f s hc hs a1 len1 cap1 w hr1

end Go.Proofs.Ytljdkaajlmcpkaa
