/-
  bits.Writer: Put of 64 bits, by contract. (Printed by mkput.py.)
-/
import Derived.Test.YtljdkaajlmcpkaaBits3
namespace Go.Proofs.Ytljdkaajlmcpkaa
open Go.RowKit Go.Shelf
attribute [local go_sem] Oper.semAt_some

set_option maxRecDepth 100000 in
set_option maxHeartbeats 1600000 in
theorem put_64 (r : Nat) (v : Value) (l : List Bool) (n b : Nat) (h2 : b = 64) (hn : n < 2 ^ b) (w : World) (h : Wr w r v l) (hlen : l.length ≤ 100000) :
    Calls Try.prog 13 #[.pointer (some ⟨r, 0, none⟩), .int .u64 n, .int .i64 b] w fun e w' => e = .returned (.int .i64 0) ∧ ∃ v', Wr w' r v' (l ++ bitsL n b) ∧ Wrote (fun k => k = r ∨ v.ownBlock = some k) w w' ∧ (∀ k, v'.ownBlock = some k → v.ownBlock = some k ∨ w.heap.size ≤ k) := by
  have H := Lib.hid h
  have hz := bits_lt n b hn
  have hb1 : (1 : Int) ≤ b := by omega
  have hb2 : (64 : Int) ≤ b := by omega
  have hb3 : (b : Int) ≤ 64 := by omega
  have hnl : n < 18446744073709551616 := Nat.lt_of_lt_of_le hn (Nat.le_trans (Nat.pow_le_pow_right (by omega) (Nat.le_of_eq h2)) (by decide))
  clear h hn h2
  refine (callsIn_wide (n := 9)).1 ?_
  refine callsIn_of_wp_marks Try.func13 rfl trivial ?_ rfl
  simp only [Try.ntmps13, List.size_toArray, List.length_cons, List.length_nil, Nat.reduceAdd, Nat.reduceSub, Array.replicate_succ, Array.replicate_zero, List.push_toArray, List.append_toArray, List.nil_append, List.cons_append]
  gi_wp2
  refine ⟨trivial, (callsIn_wide.2 (of_is _ _ _)).mono ?_⟩
  rintro e w2 ⟨rfl, rfl⟩
  gi_wp2
  have hB1 := Blk.new (w.alloc (.cells #[.pointer (some ⟨r, 0, none⟩)] 73)) [.int .u64 (n : Int)] 29
  have hB2 := Blk.new ((w.alloc (.cells #[.pointer (some ⟨r, 0, none⟩)] 73)).alloc (.cells #[.int .u64 (n : Int)] 29)) [.int .i64 (b : Int)] 3
  have hBx := ((Blk.new w [.pointer (some ⟨r, 0, none⟩)] 73).alloc (.cells #[.int .u64 (n : Int)] 29)).alloc (.cells #[.int .i64 (b : Int)] 3)
  have hB1 := hB1.alloc (.cells #[.int .i64 (b : Int)] 3)
  have hk0 : Below w.heap.size w (((w.alloc (.cells #[.pointer (some ⟨r, 0, none⟩)] 73)).alloc (.cells #[.int .u64 (n : Int)] 29)).alloc (.cells #[.int .i64 (b : Int)] 3)) := (((Below.refl _ w).alloc (Nat.le_refl _) _).alloc (by simp) _).alloc (by simp; omega) _
  have hS0 : (((w.alloc (.cells #[.pointer (some ⟨r, 0, none⟩)] 73)).alloc (.cells #[.int .u64 (n : Int)] 29)).alloc (.cells #[.int .i64 (b : Int)] 3)).heap.size = w.heap.size + 3 := by simp
  rw [World.size_alloc] at hB1 hB2
  rw [World.size_alloc] at hB2
  have hW0 : Wr (((w.alloc (.cells #[.pointer (some ⟨r, 0, none⟩)] 73)).alloc (.cells #[.int .u64 (n : Int)] 29)).alloc (.cells #[.int .i64 (b : Int)] 3)) r v l := ⟨((H.out.S.alloc _).alloc _).alloc _, ((H.out.b.alloc _).alloc _).alloc _, H.out.ne⟩
  generalize (((w.alloc (.cells #[.pointer (some ⟨r, 0, none⟩)] 73)).alloc (.cells #[.int .u64 (n : Int)] 29)).alloc (.cells #[.int .i64 (b : Int)] 3)) = W0 at *
  have hr : r < w.heap.size := H.out.S.lt
  refine wpIn_rangeFunc_ownS 7 (fun x : Bool => .int .u8 ((x.toNat : Nat) : Int)) rfl (by omega) (gf := 46) (lb := #[.pointer (some ⟨w.heap.size + 1 + 1, 0, none⟩), .pointer (some ⟨w.heap.size + 1, 0, none⟩)]) rfl trivial (enters_of Try.func46 (by kernel_rfl) rfl)
    (of_stops _ n b (w.heap.size + 1) (w.heap.size + 1 + 1) W0 hB1 hB2 (by omega)) keepsTwo_t (fun W l' o o' hl ho _ _ => ⟨World.putObj_heap_other (by omega), World.putObj_heap_other (by omega)⟩) (Below.refl _ _) rfl
    (putI w r v l) (by rw [hS0]; exact putI_own w r v l) ⟨v, by rw [List.append_nil]; exact hW0, hBx, Wrote.ofBelow hk0 _, fun k hk => .inl hk, by omega⟩ ?assign ?body ?done
  case assign =>
    intro l' x W K hK
    simp at hK
    gi_wp2
    exact hK
  case done =>
    rintro D ys W hD rfl ⟨v', h1, h2, h3, h4, h5⟩ hK
    gi_wp2
    refine ⟨by simp, .inl ⟨_, _, rfl, run_takeDeferred hK, ?_⟩⟩
    have hg := grownBy_putObj' W D (.deferred none)
    have hcl : ∀ k, some D = some k → ∃ o : Obj, W.heap[k]? = some o ∧ o.isCells = false := fun k e => by cases e; exact ⟨_, hK, rfl⟩
    exact ⟨_, results_tmp rfl _ _ _, rfl, v', h1.turn hg hcl, h3.turn hg (fun k e => by cases e; omega), fun k hk => (h4 k hk).imp id (fun h => by omega)⟩
  case body =>
    rintro l' pre x W ⟨v', h1, h2, h3, h4, h5⟩ hp
    have hsn : l ++ (pre ++ [x]) = (l ++ pre) ++ [x] := by rw [List.append_assoc]
    have hLl : (l ++ pre).length ≤ 200000 := by rw [List.length_append]; omega
    generalize l ++ pre = L at *
    obtain ⟨N, hN⟩ : ∃ N, L.length = N := ⟨_, rfl⟩
    obtain ⟨q, hq⟩ : ∃ q, N / 8 = q := ⟨_, rfl⟩
    obtain ⟨p, hp⟩ : ∃ p, N % 8 = p := ⟨_, rfl⟩
    obtain ⟨t, ht⟩ : ∃ t, 7 - p = t := ⟨_, rfl⟩
    have hq2 : (N : Int) / 8 = q := by omega
    have hp2 : (N : Int) % 8 = p := by omega
    have ht2 : (7 : Int) - p = t := by omega
    have hqw : IntKind.i64.wrap (q : Int) = q := by rw [IntKind.wrap_i64]; omega
    have htw : IntKind.i64.wrap (t : Int) = t := by rw [IntKind.wrap_i64]; omega
    have hpt : (N : Int).tmod 8 = p := by rw [Int.tmod_eq_emod_of_nonneg (by omega)]; exact hp2
    have hqq : (q : Int) < (q : Int) + 1 := by omega
    have cb := h2.cell 0 rfl
    have c0 := h1.S.cell 0 rfl
    have c1 := h1.S.cell 1 rfl
    rw [hN] at c1
    have H1 := Lib.hid h1
    have H2 := Lib.hid h2
    have H3 := Lib.hid h3
    have H4 := Lib.hid h4
    clear h1 h2 h3 h4 hB2 hBx hk0 hW0
    by_cases h8 : p = 0
    · have hlenN : (octV (packN L)).length ≤ 100000 := by rw [octV, List.length_map, packN_length]; omega
      have HN := Lib.hid ((Row.alloc H1.out.b (.cells #[.int .u8 0] 5)).drew)
      obtain ⟨g2, cap2, W2, hrun, r1, r2, r3, r4⟩ := Row.push (P := Try.prog) (T := 5) (w := (W.alloc (.cells #[.int .u8 0] 5)).drew) 23 (.int .u8 0) 1 Try.underlying23 u8_info rfl (by decide) (Row.drew (H1.out.b.alloc (.cells #[.int .u8 0] 5))) (Nat.zero_le _) ⟨W.heap.size, 0, none⟩ 1 1 [.int .u8 0] rfl (by decide) (World.news_of_block (heap_alloc_new W _)) (by intro u hu; simp at hu; subst hu; rfl) (by omega) 23
      have hlq : (octV (packN L)).length = q := by rw [octV, List.length_map, packN_length, hN]; omega
      rw [hlq] at hrun r1
      have hg3 : g2 < w.heap.size ∨ w.heap.size + 3 ≤ g2 := by
        rcases r3 with h | h
        · rcases H4.out g2 h with h | h
          · exact .inl (H.out.b.lt g2 h).2
          · exact .inr h
        · right; rw [h]; simp; omega
      have hvr : v'.ownBlock ≠ some w.heap.size := fun e => by
        rcases H4.out _ e with h | h
        · have := (H.out.b.lt _ h).2; omega
        · omega
      have hg2r : g2 ≠ r := fun e => by
        rcases r3 with h | h
        · exact H1.out.ne (by rw [h, e])
        · simp at h; omega
      have WA : Wrote (fun k => v'.ownBlock = some k) W W2 := (Wrote.alloc _ W _).drew.trans (Wrote.ofGrown r2 _ (fun k e => e))
      have SA : Blk W2 r [v', .int .i64 (L.length : Int)] TWr := H1.out.S.kept WA H1.out.ne
      have XA : Blk W2 w.heap.size [.pointer (some ⟨r, 0, none⟩)] 73 := H2.out.kept WA hvr
      have cbA : ((W.alloc (.cells #[.int .u8 0] 5)).drew).cell? ⟨w.heap.size, 0, none⟩ = some (.pointer (some ⟨r, 0, none⟩)) := (H2.out.alloc _).drew.cell 0 rfl
      have c0A : ((W.alloc (.cells #[.int .u8 0] 5)).drew).cell? ⟨r, 0, none⟩ = some v' := (H1.out.S.alloc _).drew.cell 0 rfl
      have cbB := XA.cell 0 rfl
      have c0B := SA.cell 0 rfl
      have f0B := SA.free 0
      obtain ⟨WW, hWW⟩ : ∃ WW, W2.setCell ⟨r, 0, none⟩ (.slice (some ⟨g2, 0, none⟩) (q + 1) cap2) = WW := ⟨_, rfl⟩
      have HR2 : Hid (Row 5 WW 0 (.slice (some ⟨g2, 0, none⟩) (q + 1) cap2) (octV (packP L))) := Lib.hid (by
        have e : octV (packN L ++ [0]) = octV (packN L) ++ [.int .u8 0] := by simp [octV]
        rw [← hWW, packP_new L (by rw [hN, hp, h8]), e]
        exact r1.kept (setCell_grown W2 r 0 _) (.inr (by simp [Value.ownBlock]; exact hg2r)))
      have HS2 : Hid (Blk WW r [.slice (some ⟨g2, 0, none⟩) (q + 1) cap2, .int .i64 (N : Int)] TWr) := Lib.hid (by
        rw [← hWW, ← hN]
        exact SA.set 0 _)
      have HX2 : Hid (Blk WW w.heap.size [.pointer (some ⟨r, 0, none⟩)] 73) := Lib.hid (by rw [← hWW]; exact XA.other (by omega))
      have H42 : Hid (∀ k, (Value.slice (some ⟨g2, 0, none⟩) (q + 1) cap2).ownBlock = some k → v.ownBlock = some k ∨ w.heap.size + 3 ≤ k) := Lib.hid (fun k hk => by
        simp [Value.ownBlock] at hk
        subst hk
        rcases r3 with h | h
        · exact H4.out g2 h
        · right; rw [h]; simp; omega)
      have HNE : (Value.slice (some ⟨g2, 0, none⟩) (q + 1) cap2).ownBlock ≠ some r := by simp [Value.ownBlock]; exact hg2r
      have HK : Hid (KeepsOthers W WW ∧ KeepsTwo (w.heap.size + 1) (w.heap.size + 1 + 1) W WW ∧ Wrote (fun k => k = r ∨ v.ownBlock = some k) w WW ∧ W.heap.size ≤ WW.heap.size) := Lib.hid (by
        have hne1 : ∀ k, w.heap.size < k → k < w.heap.size + 3 → v'.ownBlock ≠ some k := fun k h1 h2 e => by
          rcases H4.out _ e with h | h
          · have := (H.out.b.lt _ h).2; omega
          · omega
        rw [← hWW]
        refine ⟨(((KeepsOthers.alloc W _).trans (KeepsOthers.drew _)).trans (KeepsOthers.of_grownBy r2 (fun j o e ho => ?_))).trans (KeepsOthers.setCell _ _ _), keepsTwo_t (B := W2) ⟨WA.block _ (by omega) (hne1 _ (by omega) (by omega)), WA.block _ (by omega) (hne1 _ (by omega) (by omega))⟩ ⟨Below.heap_setCell _ _ _ _ (fun e => by simp at e; omega), Below.heap_setCell _ _ _ _ (fun e => by simp at e; omega)⟩, ?_, ?_⟩
        · rcases HN.out.2 with ⟨h0, _⟩ | ⟨g', c', cur, hv', _, hg', _⟩
          · rw [h0] at e; cases e
          · rw [hv'] at e
            simp [Value.ownBlock] at e
            subst e
            have hg'' : ((W.alloc (.cells #[.int .u8 0] 5)).drew).heap[g']? = some (.cells cur 5 (0, 0)) := hg'
            rw [hg''] at ho
            cases ho
            rfl
        · refine Wrote.trans ?_ (Wrote.set _ W2 r 0 _ (.inl rfl))
          refine ⟨WA.os.trans H3.out.os, WA.tape.trans H3.out.tape, WA.output.trans H3.out.output, Nat.le_trans H3.out.size WA.size, fun k hk hp' => ?_⟩
          exact (WA.block k (Nat.lt_of_lt_of_le hk H3.out.size) (fun e => (H4.out k e).elim (fun h => hp' (.inr h)) (fun h => by omega))).trans (H3.out.block k hk hp')
        · rw [World.size_setCell]
          exact WA.size)
      clear HN r1 r2 r3 r4 WA SA XA H1 H2 H4
      gi_wp2
      clear h8
      refine wpIn_region_round l' _ (fun y => y.cell? ⟨w.heap.size, 0, none⟩ = some (.pointer (some ⟨r, 0, none⟩))) (by kernel_rfl) (by kernel_rfl) cb (fun hHeld => ?_)
      refine wpAnyH_takeD (i := 0) (v := ?_) rfl (by kernel_rfl) (by kernel_rfl) (by kernel_rfl) (fun _ _ _ h => h) (Or.inl ⟨by rfl, ?_⟩) hHeld ?_
      rotate_left
      · rintro w s0
        go_simp
        try with_reducible rfl
      try simp only [Act.put, List.setIfInBounds_toArray, List.set_cons_zero, List.set_cons_succ]
      refine wpAnyH_takeD (i := 1) (v := ?_) rfl (by kernel_rfl) (by kernel_rfl) (by kernel_rfl) (fun _ _ _ h => h) (Or.inl ⟨by rfl, ?_⟩) hHeld ?_
      rotate_left
      · rintro w s0
        go_simp
        try with_reducible rfl
      try simp only [Act.put, List.setIfInBounds_toArray, List.set_cons_zero, List.set_cons_succ]
      refine wpAnyH_takeD (i := 2) (v := ?_) rfl (by kernel_rfl) (by kernel_rfl) (by kernel_rfl) (fun _ _ _ h => h) (Or.inl ⟨by rfl, ?_⟩) hHeld ?_
      rotate_left
      · rintro w s0
        go_simp
        try with_reducible rfl
      try simp only [Act.put, List.setIfInBounds_toArray, List.set_cons_zero, List.set_cons_succ]
      refine wpAnyH_takeD (i := 3) (v := ?_) rfl (by kernel_rfl) (by kernel_rfl) (by kernel_rfl) (fun _ _ _ h => h) (Or.inl ⟨by rfl, ?_⟩) hHeld ?_
      rotate_left
      · rintro w s0
        go_simp
        try with_reducible rfl
      try simp only [Act.put, List.setIfInBounds_toArray, List.set_cons_zero, List.set_cons_succ]
      refine wpAnyH_takeD (i := 4) (v := ?_) rfl (by kernel_rfl) (by kernel_rfl) (by kernel_rfl) (fun _ _ _ h => h) (Or.inl ⟨by rfl, ?_⟩) hHeld ?_
      rotate_left
      · rintro w s0
        go_simp
        try with_reducible rfl
      try simp only [Act.put, List.setIfInBounds_toArray, List.set_cons_zero, List.set_cons_succ]
      refine wpAnyH_two (i := 5) (j := 6) rfl rfl (by kernel_rfl) (fun K hK => ?_) (fun K hK => ?_)
      · go_simp
        refine hK.out _ _ hHeld (fun hHeld => ?_)
        clear hK K
        try simp only [Act.put, List.setIfInBounds_toArray, List.set_cons_zero, List.set_cons_succ]
        refine wpAnyH_one (i := 6) rfl (by kernel_rfl) (fun K hK => ?_)
        go_simp
        refine hK.out _ _ cbA (fun hHeld => ?_)
        clear hK K
        try simp only [Act.put, List.setIfInBounds_toArray, List.set_cons_zero, List.set_cons_succ]
        refine wpAnyH_one (i := 7) rfl (by kernel_rfl) (fun K hK => ?_)
        refine step_append_known rfl (.tmp 43) (.tmp 44) 23 rfl v' (.slice (some ⟨W.heap.size, 0, none⟩) 1 1) _ W2 rfl rfl hrun ?_
        refine hK.out _ _ cbB (fun hHeld => ?_)
        clear hK K
        try simp only [Act.put, List.setIfInBounds_toArray, List.set_cons_zero, List.set_cons_succ]
        refine wpAnyH_takeD (i := 8) (v := ?_) rfl (by kernel_rfl) (by kernel_rfl) (by kernel_rfl) (fun _ _ _ h => h) (Or.inl ⟨by rfl, ?_⟩) hHeld ?_
        rotate_left
        · rintro w s0
          go_simp
          try with_reducible rfl
        try simp only [Act.put, List.setIfInBounds_toArray, List.set_cons_zero, List.set_cons_succ]
        refine wpAnyH_takeD (i := 9) (v := ?_) rfl (by kernel_rfl) (by kernel_rfl) (by kernel_rfl) (fun _ _ _ h => h) (Or.inl ⟨by rfl, ?_⟩) hHeld ?_
        rotate_left
        · rintro w s0
          go_simp
          try with_reducible rfl
        try simp only [Act.put, List.setIfInBounds_toArray, List.set_cons_zero, List.set_cons_succ]
        refine wpAnyH_takeD (i := 10) (v := ?_) rfl (by kernel_rfl) (by kernel_rfl) (by kernel_rfl) (fun _ _ _ h => h) (Or.inl ⟨by rfl, ?_⟩) hHeld ?_
        rotate_left
        · rintro w s0
          go_simp
          try with_reducible rfl
        try simp only [Act.put, List.setIfInBounds_toArray, List.set_cons_zero, List.set_cons_succ]
        refine wpAnyH_one (i := 11) rfl (by kernel_rfl) (fun K hK => ?_)
        go_simp
        refine hK.out _ _ (HX2.out.cell 0 rfl) (fun hHeld => ?_)
        clear hK K
        try simp only [Act.put, List.setIfInBounds_toArray, List.set_cons_zero, List.set_cons_succ]
        refine wpAnyH_done (by kernel_rfl) ?_ _
        refine OnlyN.normal ?_
        have cb5 := HX2.out.cell 0 rfl
        have c05 := HS2.out.cell 0 rfl
        have c15 := HS2.out.cell 1 rfl
        clear hHeld hrun cbA cbB c0A c0B f0B hWW cb c0 c1
        gi_wp2
        have hm : (octV (packP L)).length = q + 1 := by rw [octV, List.length_map, packP, List.length_map, List.length_range, hN, hq]
        obtain ⟨g, cap, hv2, -, hgW, hcap1, hcap2⟩ := HR2.out.at (by omega)
        rw [hm] at hv2 hcap1
        obtain ⟨hb1', hb2'⟩ := byteN_snoc L x
        rw [hN, hq, hp, ht] at hb1'
        rw [hN, hq, hp] at hb2'
        have hbl := byteN_lt L q
        obtain ⟨y8, hy8⟩ : ∃ y8, byteN (L ++ [x]) q = y8 := ⟨_, rfl⟩
        have hs8 := packN_snoc L x
        rw [hN, hq, hp, ht, ← hb1', hy8] at hs8
        rw [hy8] at hb1'
        have HOR : Hid (bits BinOp.or IntKind.u8 ((byteN L q : Nat) : Int) (IntKind.u8.wrap (((x.toNat : Nat) : Int) * 2 ^ t)) = ((y8 : Nat) : Int)) := Lib.hid (by rw [hb1', IntKind.wrap_u8]; exact or_u8_bit _ _ _ hbl (by omega) (by rw [show t + 1 = 8 - p by omega]; exact hb2'))
        simp at hv2
        obtain ⟨hv3, hv4⟩ := hv2
        subst g2 cap2
        have cg : WW.cell? ⟨g, q, none⟩ = some (.int .u8 ((byteN L q : Nat) : Int)) := by
          rw [HR2.out.cell q (by omega), octV, List.getElem?_map, packP, List.getElem?_map, List.getElem?_range (by omega)]
          rfl
        have fg := HR2.out.free q
        have hset : (octV (packP L)).set q (.int .u8 ((y8 : Nat) : Int)) = octV (packN (L ++ [x])) := by
          rw [hs8, octV, octV, List.map_set]
        clear hb1' hb2' hy8 hs8
        obtain ⟨W3, hW3⟩ : ∃ W3, (WW.setCell ⟨g, q, none⟩ (.int .u8 ((y8 : Nat) : Int))).drew = W3 := ⟨_, rfl⟩
        have HR3 : Hid (Row 5 W3 0 (.slice (some ⟨g, 0, none⟩) (q + 1) cap) (octV (packN (L ++ [x])))) := Lib.hid (by rw [← hset, ← hW3]; exact HR2.out.drew.set q _)
        have hgr : g ≠ r := fun e => HNE (by rw [← e]; rfl)
        have HS3 : Hid (Blk W3 r [.slice (some ⟨g, 0, none⟩) (q + 1) cap, .int .i64 (N : Int)] TWr) := Lib.hid (by rw [← hW3]; exact HS2.out.drew.other (fun e => hgr e.symm))
        have hg3 : g < w.heap.size ∨ w.heap.size + 3 ≤ g := by
          rcases H42.out g rfl with h | h
          · exact .inl (H.out.b.lt g h).2
          · exact .inr h
        have HX3 : Hid (Blk W3 w.heap.size [.pointer (some ⟨r, 0, none⟩)] 73) := Lib.hid (by rw [← hW3]; exact HX2.out.drew.other (by omega))
        have HK3 : Hid (KeepsOthers W W3 ∧ KeepsTwo (w.heap.size + 1) (w.heap.size + 1 + 1) W W3 ∧ Wrote (fun k => k = r ∨ v.ownBlock = some k) w W3 ∧ W.heap.size ≤ W3.heap.size) := Lib.hid (by
          obtain ⟨a1, a2, a3, a4⟩ := HK.out
          rw [← hW3]
          refine ⟨(a1.trans (KeepsOthers.setCell _ _ _)).trans (KeepsOthers.drew _), keepsTwo_t a2 ⟨Below.heap_setCell _ _ _ _ (fun e => by simp at e; omega), Below.heap_setCell _ _ _ _ (fun e => by simp at e; omega)⟩, ?_, by simpa using a4⟩
          rcases H42.out g rfl with h | h
          · exact (a3.trans (Wrote.set _ WW g q _ (.inr h))).drew
          · exact (a3.setNew (by omega) q _).drew)
        have cgq : WW.drew.cell? ⟨g, q, none⟩ = some (.int .u8 ((byteN L q : Nat) : Int)) := cg
        refine wpIn_region_round l' _ (fun y => y.cell? ⟨w.heap.size, 0, none⟩ = some (.pointer (some ⟨r, 0, none⟩)) ∧ y.cell? ⟨r, 0, none⟩ = some (.slice (some ⟨g, 0, none⟩) (q + 1) cap) ∧ y.cell? ⟨r, 1, none⟩ = some (.int .i64 (N : Int))) (by kernel_rfl) (by kernel_rfl) ⟨HX2.out.cell 0 rfl, HS2.out.cell 0 rfl, HS2.out.cell 1 rfl⟩ (fun hHeld => ?_)
        refine wpAnyH_takeD (i := 0) (v := ?_) rfl (by kernel_rfl) (by kernel_rfl) (by kernel_rfl) (fun _ _ _ h => h) (Or.inl ⟨by rfl, ?_⟩) hHeld ?_
        rotate_left
        · rintro w ⟨s0, s1, s2⟩
          go_simp
          try with_reducible rfl
        try simp only [Act.put, List.setIfInBounds_toArray, List.set_cons_zero, List.set_cons_succ]
        refine wpAnyH_takeD (i := 1) (v := ?_) rfl (by kernel_rfl) (by kernel_rfl) (by kernel_rfl) (fun _ _ _ h => h) (Or.inl ⟨by rfl, ?_⟩) hHeld ?_
        rotate_left
        · rintro w ⟨s0, s1, s2⟩
          go_simp
          try with_reducible rfl
        try simp only [Act.put, List.setIfInBounds_toArray, List.set_cons_zero, List.set_cons_succ]
        refine wpAnyH_takeD (i := 2) (v := ?_) rfl (by kernel_rfl) (by kernel_rfl) (by kernel_rfl) (fun _ _ _ h => h) (Or.inl ⟨by rfl, ?_⟩) hHeld ?_
        rotate_left
        · rintro w ⟨s0, s1, s2⟩
          go_simp
          try with_reducible rfl
        try simp only [Act.put, List.setIfInBounds_toArray, List.set_cons_zero, List.set_cons_succ]
        refine wpAnyH_takeD (i := 3) (v := ?_) rfl (by kernel_rfl) (by kernel_rfl) (by kernel_rfl) (fun _ _ _ h => h) (Or.inl ⟨by rfl, ?_⟩) hHeld ?_
        rotate_left
        · rintro w ⟨s0, s1, s2⟩
          go_simp
          try with_reducible rfl
        try simp only [Act.put, List.setIfInBounds_toArray, List.set_cons_zero, List.set_cons_succ]
        refine wpAnyH_takeD (i := 4) (v := ?_) rfl (by kernel_rfl) (by kernel_rfl) (by kernel_rfl) (fun _ _ _ h => h) (Or.inl ⟨by rfl, ?_⟩) hHeld ?_
        rotate_left
        · rintro w ⟨s0, s1, s2⟩
          go_simp
          try with_reducible rfl
        try simp only [Act.put, List.setIfInBounds_toArray, List.set_cons_zero, List.set_cons_succ]
        refine wpAnyH_takeD (i := 5) (v := ?_) rfl (by kernel_rfl) (by kernel_rfl) (by kernel_rfl) (fun _ _ _ h => h) (Or.inl ⟨by rfl, ?_⟩) hHeld ?_
        rotate_left
        · rintro w ⟨s0, s1, s2⟩
          go_simp
          try with_reducible rfl
        try simp only [Act.put, List.setIfInBounds_toArray, List.set_cons_zero, List.set_cons_succ]
        refine wpAnyH_takeD (i := 6) (v := ?_) rfl (by kernel_rfl) (by kernel_rfl) (by kernel_rfl) (fun _ _ _ h => h) (Or.inl ⟨by rfl, ?_⟩) hHeld ?_
        rotate_left
        · rintro w ⟨s0, s1, s2⟩
          go_simp
          try with_reducible rfl
        try simp only [Act.put, List.setIfInBounds_toArray, List.set_cons_zero, List.set_cons_succ]
        refine wpAnyH_takeD (i := 7) (v := ?_) rfl (by kernel_rfl) (by kernel_rfl) (by kernel_rfl) (fun _ _ _ h => h) (Or.inl ⟨by rfl, ?_⟩) hHeld ?_
        rotate_left
        · rintro w ⟨s0, s1, s2⟩
          go_simp
          try with_reducible rfl
        try simp only [Act.put, List.setIfInBounds_toArray, List.set_cons_zero, List.set_cons_succ]
        refine wpAnyH_takeD (i := 8) (v := ?_) rfl (by kernel_rfl) (by kernel_rfl) (by kernel_rfl) (fun _ _ _ h => h) (Or.inl ⟨by rfl, ?_⟩) hHeld ?_
        rotate_left
        · rintro w ⟨s0, s1, s2⟩
          go_simp
          try with_reducible rfl
        try simp only [Act.put, List.setIfInBounds_toArray, List.set_cons_zero, List.set_cons_succ]
        refine wpAnyH_takeD (i := 9) (v := ?_) rfl (by kernel_rfl) (by kernel_rfl) (by kernel_rfl) (fun _ _ _ h => h) (Or.inl ⟨by rfl, ?_⟩) hHeld ?_
        rotate_left
        · rintro w ⟨s0, s1, s2⟩
          go_simp
          try with_reducible rfl
        try simp only [Act.put, List.setIfInBounds_toArray, List.set_cons_zero, List.set_cons_succ]
        refine wpAnyH_takeD (i := 10) (v := ?_) rfl (by kernel_rfl) (by kernel_rfl) (by kernel_rfl) (fun _ _ _ h => h) (Or.inl ⟨by rfl, ?_⟩) hHeld ?_
        rotate_left
        · rintro w ⟨s0, s1, s2⟩
          go_simp
          try with_reducible rfl
        try simp only [Act.put, List.setIfInBounds_toArray, List.set_cons_zero, List.set_cons_succ]
        refine wpAnyH_takeD (i := 11) (v := ?_) rfl (by kernel_rfl) (by kernel_rfl) (by kernel_rfl) (fun _ _ _ h => h) (Or.inl ⟨by rfl, ?_⟩) hHeld ?_
        rotate_left
        · rintro w ⟨s0, s1, s2⟩
          go_simp
          try with_reducible rfl
        try simp only [Act.put, List.setIfInBounds_toArray, List.set_cons_zero, List.set_cons_succ]
        refine wpAnyH_takeD (i := 13) (v := ?_) rfl (by kernel_rfl) (by kernel_rfl) (by kernel_rfl) (fun _ _ _ h => h) (Or.inl ⟨by rfl, ?_⟩) hHeld ?_
        rotate_left
        · rintro w ⟨s0, s1, s2⟩
          go_simp
          try with_reducible rfl
        try simp only [Act.put, List.setIfInBounds_toArray, List.set_cons_zero, List.set_cons_succ]
        refine wpAnyH_takeD (i := 14) (v := ?_) rfl (by kernel_rfl) (by kernel_rfl) (by kernel_rfl) (fun _ _ _ h => h) (Or.inl ⟨by rfl, ?_⟩) hHeld ?_
        rotate_left
        · rintro w ⟨s0, s1, s2⟩
          go_simp
          try with_reducible rfl
        try simp only [Act.put, List.setIfInBounds_toArray, List.set_cons_zero, List.set_cons_succ]
        refine wpAnyH_takeD (i := 15) (v := ?_) rfl (by kernel_rfl) (by kernel_rfl) (by kernel_rfl) (fun _ _ _ h => h) (Or.inl ⟨by rfl, ?_⟩) hHeld ?_
        rotate_left
        · rintro w ⟨s0, s1, s2⟩
          go_simp
          try with_reducible rfl
        try simp only [Act.put, List.setIfInBounds_toArray, List.set_cons_zero, List.set_cons_succ]
        refine wpAnyH_takeD (i := 16) (v := ?_) rfl (by kernel_rfl) (by kernel_rfl) (by kernel_rfl) (fun _ _ _ h => h) (Or.inl ⟨by rfl, ?_⟩) hHeld ?_
        rotate_left
        · rintro w ⟨s0, s1, s2⟩
          go_simp
          try with_reducible rfl
        try simp only [Act.put, List.setIfInBounds_toArray, List.set_cons_zero, List.set_cons_succ]
        refine wpAnyH_takeD (i := 17) (v := ?_) rfl (by kernel_rfl) (by kernel_rfl) (by kernel_rfl) (fun _ _ _ h => h) (Or.inl ⟨by rfl, ?_⟩) hHeld ?_
        rotate_left
        · rintro w ⟨s0, s1, s2⟩
          go_simp
          try with_reducible rfl
        try simp only [Act.put, List.setIfInBounds_toArray, List.set_cons_zero, List.set_cons_succ]
        refine wpAnyH_takeD (i := 18) (v := ?_) rfl (by kernel_rfl) (by kernel_rfl) (by kernel_rfl) (fun _ _ _ h => h) (Or.inl ⟨by rfl, ?_⟩) hHeld ?_
        rotate_left
        · rintro w ⟨s0, s1, s2⟩
          go_simp
          try with_reducible rfl
        try simp only [Act.put, List.setIfInBounds_toArray, List.set_cons_zero, List.set_cons_succ]
        refine wpAnyH_takeD (i := 19) (v := ?_) rfl (by kernel_rfl) (by kernel_rfl) (by kernel_rfl) (fun _ _ _ h => h) (Or.inl ⟨by rfl, ?_⟩) hHeld ?_
        rotate_left
        · rintro w ⟨s0, s1, s2⟩
          go_simp
          try with_reducible rfl
        try simp only [Act.put, List.setIfInBounds_toArray, List.set_cons_zero, List.set_cons_succ]
        refine wpAnyH_takeD (i := 20) (v := ?_) rfl (by kernel_rfl) (by kernel_rfl) (by kernel_rfl) (fun _ _ _ h => h) (Or.inl ⟨by rfl, ?_⟩) hHeld ?_
        rotate_left
        · rintro w ⟨s0, s1, s2⟩
          go_simp
          try with_reducible rfl
        try simp only [Act.put, List.setIfInBounds_toArray, List.set_cons_zero, List.set_cons_succ]
        refine wpAnyH_takeD (i := 21) (v := ?_) rfl (by kernel_rfl) (by kernel_rfl) (by kernel_rfl) (fun _ _ _ h => h) (Or.inl ⟨by rfl, ?_⟩) hHeld ?_
        rotate_left
        · rintro w ⟨s0, s1, s2⟩
          go_simp
          try with_reducible rfl
        try simp only [Act.put, List.setIfInBounds_toArray, List.set_cons_zero, List.set_cons_succ]
        have hor := HOR.out
        have hfr : WW.drew.frozen? ⟨g, q, none⟩ = false := fg
        refine wpAnyH_one (i := 12) rfl (by kernel_rfl) (fun K hK => ?_)
        go_simp
        refine hK.out _ _ hHeld (fun hHeld => ?_)
        clear hK K
        try simp only [Act.put, List.setIfInBounds_toArray, List.set_cons_zero, List.set_cons_succ]
        refine wpAnyH_takeD (i := 22) (v := ?_) rfl (by kernel_rfl) (by kernel_rfl) (by kernel_rfl) (fun _ _ _ h => h) (Or.inl ⟨by rfl, ?_⟩) hHeld ?_
        rotate_left
        · rintro w ⟨s0, s1, s2⟩
          go_simp
          try with_reducible rfl
        try simp only [Act.put, List.setIfInBounds_toArray, List.set_cons_zero, List.set_cons_succ]
        refine wpAnyH_takeD (i := 23) (v := ?_) rfl (by kernel_rfl) (by kernel_rfl) (by kernel_rfl) (fun _ _ _ h => h) (Or.inl ⟨by rfl, ?_⟩) hHeld ?_
        rotate_left
        · rintro w ⟨s0, s1, s2⟩
          go_simp
          try with_reducible rfl
        try simp only [Act.put, List.setIfInBounds_toArray, List.set_cons_zero, List.set_cons_succ]
        refine wpAnyH_one (i := 24) rfl (by kernel_rfl) (fun K hK => ?_)
        go_simp
        refine hK.out _ _ ⟨HX3.out.cell 0 rfl, HS3.out.cell 0 rfl, HS3.out.cell 1 rfl⟩ (fun hHeld => ?_)
        clear hK K
        try simp only [Act.put, List.setIfInBounds_toArray, List.set_cons_zero, List.set_cons_succ]
        refine wpAnyH_done (by kernel_rfl) ?_ _
        refine OnlyN.normal ?_
        have cb3 := HX3.out.cell 0 rfl
        have c13 := HS3.out.cell 1 rfl
        have f13 := HS3.out.free 1
        clear hHeld hor hfr cgq cg fg hset hW3 HR2 HS2 HX2 HK HOR
        gi_wp2
        obtain ⟨a1, a2, a3, a4⟩ := HK3.out
        refine ⟨a1.trans (KeepsOthers.setCell _ _ _), keepsTwo_t a2 ⟨Below.heap_setCell _ _ _ _ (fun e => by simp at e; omega), Below.heap_setCell _ _ _ _ (fun e => by simp at e; omega)⟩, _, ⟨?_, ?_, ?_⟩, HX3.out.other (by omega), a3.trans (Wrote.set _ W3 r 1 _ (.inl rfl)), H42.out, by simp; omega⟩
        · have hg := HS3.out.set 1 (.int .i64 ((N : Int) + 1))
          rw [hsn, List.length_append, hN]
          exact hg
        · rw [hsn]
          exact HR3.out.kept (setCell_grown W3 r 1 _) (.inr (by simp [Value.ownBlock]; exact hgr))
        · simp [Value.ownBlock]; exact hgr
      · go_simp
        refine hK.out _ _ cbA (fun hHeld => ?_)
        clear hK K
        try simp only [Act.put, List.setIfInBounds_toArray, List.set_cons_zero, List.set_cons_succ]
        refine wpAnyH_one (i := 5) rfl (by kernel_rfl) (fun K hK => ?_)
        go_simp
        refine hK.out _ _ hHeld (fun hHeld => ?_)
        clear hK K
        try simp only [Act.put, List.setIfInBounds_toArray, List.set_cons_zero, List.set_cons_succ]
        refine wpAnyH_one (i := 7) rfl (by kernel_rfl) (fun K hK => ?_)
        refine step_append_known rfl (.tmp 43) (.tmp 44) 23 rfl v' (.slice (some ⟨W.heap.size, 0, none⟩) 1 1) _ W2 rfl rfl hrun ?_
        refine hK.out _ _ cbB (fun hHeld => ?_)
        clear hK K
        try simp only [Act.put, List.setIfInBounds_toArray, List.set_cons_zero, List.set_cons_succ]
        refine wpAnyH_takeD (i := 8) (v := ?_) rfl (by kernel_rfl) (by kernel_rfl) (by kernel_rfl) (fun _ _ _ h => h) (Or.inl ⟨by rfl, ?_⟩) hHeld ?_
        rotate_left
        · rintro w s0
          go_simp
          try with_reducible rfl
        try simp only [Act.put, List.setIfInBounds_toArray, List.set_cons_zero, List.set_cons_succ]
        refine wpAnyH_takeD (i := 9) (v := ?_) rfl (by kernel_rfl) (by kernel_rfl) (by kernel_rfl) (fun _ _ _ h => h) (Or.inl ⟨by rfl, ?_⟩) hHeld ?_
        rotate_left
        · rintro w s0
          go_simp
          try with_reducible rfl
        try simp only [Act.put, List.setIfInBounds_toArray, List.set_cons_zero, List.set_cons_succ]
        refine wpAnyH_takeD (i := 10) (v := ?_) rfl (by kernel_rfl) (by kernel_rfl) (by kernel_rfl) (fun _ _ _ h => h) (Or.inl ⟨by rfl, ?_⟩) hHeld ?_
        rotate_left
        · rintro w s0
          go_simp
          try with_reducible rfl
        try simp only [Act.put, List.setIfInBounds_toArray, List.set_cons_zero, List.set_cons_succ]
        refine wpAnyH_one (i := 11) rfl (by kernel_rfl) (fun K hK => ?_)
        go_simp
        refine hK.out _ _ (HX2.out.cell 0 rfl) (fun hHeld => ?_)
        clear hK K
        try simp only [Act.put, List.setIfInBounds_toArray, List.set_cons_zero, List.set_cons_succ]
        refine wpAnyH_done (by kernel_rfl) ?_ _
        refine OnlyN.normal ?_
        have cb5 := HX2.out.cell 0 rfl
        have c05 := HS2.out.cell 0 rfl
        have c15 := HS2.out.cell 1 rfl
        clear hHeld hrun cbA cbB c0A c0B f0B hWW cb c0 c1
        gi_wp2
        have hm : (octV (packP L)).length = q + 1 := by rw [octV, List.length_map, packP, List.length_map, List.length_range, hN, hq]
        obtain ⟨g, cap, hv2, -, hgW, hcap1, hcap2⟩ := HR2.out.at (by omega)
        rw [hm] at hv2 hcap1
        obtain ⟨hb1', hb2'⟩ := byteN_snoc L x
        rw [hN, hq, hp, ht] at hb1'
        rw [hN, hq, hp] at hb2'
        have hbl := byteN_lt L q
        obtain ⟨y8, hy8⟩ : ∃ y8, byteN (L ++ [x]) q = y8 := ⟨_, rfl⟩
        have hs8 := packN_snoc L x
        rw [hN, hq, hp, ht, ← hb1', hy8] at hs8
        rw [hy8] at hb1'
        have HOR : Hid (bits BinOp.or IntKind.u8 ((byteN L q : Nat) : Int) (IntKind.u8.wrap (((x.toNat : Nat) : Int) * 2 ^ t)) = ((y8 : Nat) : Int)) := Lib.hid (by rw [hb1', IntKind.wrap_u8]; exact or_u8_bit _ _ _ hbl (by omega) (by rw [show t + 1 = 8 - p by omega]; exact hb2'))
        simp at hv2
        obtain ⟨hv3, hv4⟩ := hv2
        subst g2 cap2
        have cg : WW.cell? ⟨g, q, none⟩ = some (.int .u8 ((byteN L q : Nat) : Int)) := by
          rw [HR2.out.cell q (by omega), octV, List.getElem?_map, packP, List.getElem?_map, List.getElem?_range (by omega)]
          rfl
        have fg := HR2.out.free q
        have hset : (octV (packP L)).set q (.int .u8 ((y8 : Nat) : Int)) = octV (packN (L ++ [x])) := by
          rw [hs8, octV, octV, List.map_set]
        clear hb1' hb2' hy8 hs8
        obtain ⟨W3, hW3⟩ : ∃ W3, (WW.setCell ⟨g, q, none⟩ (.int .u8 ((y8 : Nat) : Int))).drew = W3 := ⟨_, rfl⟩
        have HR3 : Hid (Row 5 W3 0 (.slice (some ⟨g, 0, none⟩) (q + 1) cap) (octV (packN (L ++ [x])))) := Lib.hid (by rw [← hset, ← hW3]; exact HR2.out.drew.set q _)
        have hgr : g ≠ r := fun e => HNE (by rw [← e]; rfl)
        have HS3 : Hid (Blk W3 r [.slice (some ⟨g, 0, none⟩) (q + 1) cap, .int .i64 (N : Int)] TWr) := Lib.hid (by rw [← hW3]; exact HS2.out.drew.other (fun e => hgr e.symm))
        have hg3 : g < w.heap.size ∨ w.heap.size + 3 ≤ g := by
          rcases H42.out g rfl with h | h
          · exact .inl (H.out.b.lt g h).2
          · exact .inr h
        have HX3 : Hid (Blk W3 w.heap.size [.pointer (some ⟨r, 0, none⟩)] 73) := Lib.hid (by rw [← hW3]; exact HX2.out.drew.other (by omega))
        have HK3 : Hid (KeepsOthers W W3 ∧ KeepsTwo (w.heap.size + 1) (w.heap.size + 1 + 1) W W3 ∧ Wrote (fun k => k = r ∨ v.ownBlock = some k) w W3 ∧ W.heap.size ≤ W3.heap.size) := Lib.hid (by
          obtain ⟨a1, a2, a3, a4⟩ := HK.out
          rw [← hW3]
          refine ⟨(a1.trans (KeepsOthers.setCell _ _ _)).trans (KeepsOthers.drew _), keepsTwo_t a2 ⟨Below.heap_setCell _ _ _ _ (fun e => by simp at e; omega), Below.heap_setCell _ _ _ _ (fun e => by simp at e; omega)⟩, ?_, by simpa using a4⟩
          rcases H42.out g rfl with h | h
          · exact (a3.trans (Wrote.set _ WW g q _ (.inr h))).drew
          · exact (a3.setNew (by omega) q _).drew)
        have cgq : WW.drew.cell? ⟨g, q, none⟩ = some (.int .u8 ((byteN L q : Nat) : Int)) := cg
        refine wpIn_region_round l' _ (fun y => y.cell? ⟨w.heap.size, 0, none⟩ = some (.pointer (some ⟨r, 0, none⟩)) ∧ y.cell? ⟨r, 0, none⟩ = some (.slice (some ⟨g, 0, none⟩) (q + 1) cap) ∧ y.cell? ⟨r, 1, none⟩ = some (.int .i64 (N : Int))) (by kernel_rfl) (by kernel_rfl) ⟨HX2.out.cell 0 rfl, HS2.out.cell 0 rfl, HS2.out.cell 1 rfl⟩ (fun hHeld => ?_)
        refine wpAnyH_takeD (i := 0) (v := ?_) rfl (by kernel_rfl) (by kernel_rfl) (by kernel_rfl) (fun _ _ _ h => h) (Or.inl ⟨by rfl, ?_⟩) hHeld ?_
        rotate_left
        · rintro w ⟨s0, s1, s2⟩
          go_simp
          try with_reducible rfl
        try simp only [Act.put, List.setIfInBounds_toArray, List.set_cons_zero, List.set_cons_succ]
        refine wpAnyH_takeD (i := 1) (v := ?_) rfl (by kernel_rfl) (by kernel_rfl) (by kernel_rfl) (fun _ _ _ h => h) (Or.inl ⟨by rfl, ?_⟩) hHeld ?_
        rotate_left
        · rintro w ⟨s0, s1, s2⟩
          go_simp
          try with_reducible rfl
        try simp only [Act.put, List.setIfInBounds_toArray, List.set_cons_zero, List.set_cons_succ]
        refine wpAnyH_takeD (i := 2) (v := ?_) rfl (by kernel_rfl) (by kernel_rfl) (by kernel_rfl) (fun _ _ _ h => h) (Or.inl ⟨by rfl, ?_⟩) hHeld ?_
        rotate_left
        · rintro w ⟨s0, s1, s2⟩
          go_simp
          try with_reducible rfl
        try simp only [Act.put, List.setIfInBounds_toArray, List.set_cons_zero, List.set_cons_succ]
        refine wpAnyH_takeD (i := 3) (v := ?_) rfl (by kernel_rfl) (by kernel_rfl) (by kernel_rfl) (fun _ _ _ h => h) (Or.inl ⟨by rfl, ?_⟩) hHeld ?_
        rotate_left
        · rintro w ⟨s0, s1, s2⟩
          go_simp
          try with_reducible rfl
        try simp only [Act.put, List.setIfInBounds_toArray, List.set_cons_zero, List.set_cons_succ]
        refine wpAnyH_takeD (i := 4) (v := ?_) rfl (by kernel_rfl) (by kernel_rfl) (by kernel_rfl) (fun _ _ _ h => h) (Or.inl ⟨by rfl, ?_⟩) hHeld ?_
        rotate_left
        · rintro w ⟨s0, s1, s2⟩
          go_simp
          try with_reducible rfl
        try simp only [Act.put, List.setIfInBounds_toArray, List.set_cons_zero, List.set_cons_succ]
        refine wpAnyH_takeD (i := 5) (v := ?_) rfl (by kernel_rfl) (by kernel_rfl) (by kernel_rfl) (fun _ _ _ h => h) (Or.inl ⟨by rfl, ?_⟩) hHeld ?_
        rotate_left
        · rintro w ⟨s0, s1, s2⟩
          go_simp
          try with_reducible rfl
        try simp only [Act.put, List.setIfInBounds_toArray, List.set_cons_zero, List.set_cons_succ]
        refine wpAnyH_takeD (i := 6) (v := ?_) rfl (by kernel_rfl) (by kernel_rfl) (by kernel_rfl) (fun _ _ _ h => h) (Or.inl ⟨by rfl, ?_⟩) hHeld ?_
        rotate_left
        · rintro w ⟨s0, s1, s2⟩
          go_simp
          try with_reducible rfl
        try simp only [Act.put, List.setIfInBounds_toArray, List.set_cons_zero, List.set_cons_succ]
        refine wpAnyH_takeD (i := 7) (v := ?_) rfl (by kernel_rfl) (by kernel_rfl) (by kernel_rfl) (fun _ _ _ h => h) (Or.inl ⟨by rfl, ?_⟩) hHeld ?_
        rotate_left
        · rintro w ⟨s0, s1, s2⟩
          go_simp
          try with_reducible rfl
        try simp only [Act.put, List.setIfInBounds_toArray, List.set_cons_zero, List.set_cons_succ]
        refine wpAnyH_takeD (i := 8) (v := ?_) rfl (by kernel_rfl) (by kernel_rfl) (by kernel_rfl) (fun _ _ _ h => h) (Or.inl ⟨by rfl, ?_⟩) hHeld ?_
        rotate_left
        · rintro w ⟨s0, s1, s2⟩
          go_simp
          try with_reducible rfl
        try simp only [Act.put, List.setIfInBounds_toArray, List.set_cons_zero, List.set_cons_succ]
        refine wpAnyH_takeD (i := 9) (v := ?_) rfl (by kernel_rfl) (by kernel_rfl) (by kernel_rfl) (fun _ _ _ h => h) (Or.inl ⟨by rfl, ?_⟩) hHeld ?_
        rotate_left
        · rintro w ⟨s0, s1, s2⟩
          go_simp
          try with_reducible rfl
        try simp only [Act.put, List.setIfInBounds_toArray, List.set_cons_zero, List.set_cons_succ]
        refine wpAnyH_takeD (i := 10) (v := ?_) rfl (by kernel_rfl) (by kernel_rfl) (by kernel_rfl) (fun _ _ _ h => h) (Or.inl ⟨by rfl, ?_⟩) hHeld ?_
        rotate_left
        · rintro w ⟨s0, s1, s2⟩
          go_simp
          try with_reducible rfl
        try simp only [Act.put, List.setIfInBounds_toArray, List.set_cons_zero, List.set_cons_succ]
        refine wpAnyH_takeD (i := 11) (v := ?_) rfl (by kernel_rfl) (by kernel_rfl) (by kernel_rfl) (fun _ _ _ h => h) (Or.inl ⟨by rfl, ?_⟩) hHeld ?_
        rotate_left
        · rintro w ⟨s0, s1, s2⟩
          go_simp
          try with_reducible rfl
        try simp only [Act.put, List.setIfInBounds_toArray, List.set_cons_zero, List.set_cons_succ]
        refine wpAnyH_takeD (i := 13) (v := ?_) rfl (by kernel_rfl) (by kernel_rfl) (by kernel_rfl) (fun _ _ _ h => h) (Or.inl ⟨by rfl, ?_⟩) hHeld ?_
        rotate_left
        · rintro w ⟨s0, s1, s2⟩
          go_simp
          try with_reducible rfl
        try simp only [Act.put, List.setIfInBounds_toArray, List.set_cons_zero, List.set_cons_succ]
        refine wpAnyH_takeD (i := 14) (v := ?_) rfl (by kernel_rfl) (by kernel_rfl) (by kernel_rfl) (fun _ _ _ h => h) (Or.inl ⟨by rfl, ?_⟩) hHeld ?_
        rotate_left
        · rintro w ⟨s0, s1, s2⟩
          go_simp
          try with_reducible rfl
        try simp only [Act.put, List.setIfInBounds_toArray, List.set_cons_zero, List.set_cons_succ]
        refine wpAnyH_takeD (i := 15) (v := ?_) rfl (by kernel_rfl) (by kernel_rfl) (by kernel_rfl) (fun _ _ _ h => h) (Or.inl ⟨by rfl, ?_⟩) hHeld ?_
        rotate_left
        · rintro w ⟨s0, s1, s2⟩
          go_simp
          try with_reducible rfl
        try simp only [Act.put, List.setIfInBounds_toArray, List.set_cons_zero, List.set_cons_succ]
        refine wpAnyH_takeD (i := 16) (v := ?_) rfl (by kernel_rfl) (by kernel_rfl) (by kernel_rfl) (fun _ _ _ h => h) (Or.inl ⟨by rfl, ?_⟩) hHeld ?_
        rotate_left
        · rintro w ⟨s0, s1, s2⟩
          go_simp
          try with_reducible rfl
        try simp only [Act.put, List.setIfInBounds_toArray, List.set_cons_zero, List.set_cons_succ]
        refine wpAnyH_takeD (i := 17) (v := ?_) rfl (by kernel_rfl) (by kernel_rfl) (by kernel_rfl) (fun _ _ _ h => h) (Or.inl ⟨by rfl, ?_⟩) hHeld ?_
        rotate_left
        · rintro w ⟨s0, s1, s2⟩
          go_simp
          try with_reducible rfl
        try simp only [Act.put, List.setIfInBounds_toArray, List.set_cons_zero, List.set_cons_succ]
        refine wpAnyH_takeD (i := 18) (v := ?_) rfl (by kernel_rfl) (by kernel_rfl) (by kernel_rfl) (fun _ _ _ h => h) (Or.inl ⟨by rfl, ?_⟩) hHeld ?_
        rotate_left
        · rintro w ⟨s0, s1, s2⟩
          go_simp
          try with_reducible rfl
        try simp only [Act.put, List.setIfInBounds_toArray, List.set_cons_zero, List.set_cons_succ]
        refine wpAnyH_takeD (i := 19) (v := ?_) rfl (by kernel_rfl) (by kernel_rfl) (by kernel_rfl) (fun _ _ _ h => h) (Or.inl ⟨by rfl, ?_⟩) hHeld ?_
        rotate_left
        · rintro w ⟨s0, s1, s2⟩
          go_simp
          try with_reducible rfl
        try simp only [Act.put, List.setIfInBounds_toArray, List.set_cons_zero, List.set_cons_succ]
        refine wpAnyH_takeD (i := 20) (v := ?_) rfl (by kernel_rfl) (by kernel_rfl) (by kernel_rfl) (fun _ _ _ h => h) (Or.inl ⟨by rfl, ?_⟩) hHeld ?_
        rotate_left
        · rintro w ⟨s0, s1, s2⟩
          go_simp
          try with_reducible rfl
        try simp only [Act.put, List.setIfInBounds_toArray, List.set_cons_zero, List.set_cons_succ]
        refine wpAnyH_takeD (i := 21) (v := ?_) rfl (by kernel_rfl) (by kernel_rfl) (by kernel_rfl) (fun _ _ _ h => h) (Or.inl ⟨by rfl, ?_⟩) hHeld ?_
        rotate_left
        · rintro w ⟨s0, s1, s2⟩
          go_simp
          try with_reducible rfl
        try simp only [Act.put, List.setIfInBounds_toArray, List.set_cons_zero, List.set_cons_succ]
        have hor := HOR.out
        have hfr : WW.drew.frozen? ⟨g, q, none⟩ = false := fg
        refine wpAnyH_one (i := 12) rfl (by kernel_rfl) (fun K hK => ?_)
        go_simp
        refine hK.out _ _ hHeld (fun hHeld => ?_)
        clear hK K
        try simp only [Act.put, List.setIfInBounds_toArray, List.set_cons_zero, List.set_cons_succ]
        refine wpAnyH_takeD (i := 22) (v := ?_) rfl (by kernel_rfl) (by kernel_rfl) (by kernel_rfl) (fun _ _ _ h => h) (Or.inl ⟨by rfl, ?_⟩) hHeld ?_
        rotate_left
        · rintro w ⟨s0, s1, s2⟩
          go_simp
          try with_reducible rfl
        try simp only [Act.put, List.setIfInBounds_toArray, List.set_cons_zero, List.set_cons_succ]
        refine wpAnyH_takeD (i := 23) (v := ?_) rfl (by kernel_rfl) (by kernel_rfl) (by kernel_rfl) (fun _ _ _ h => h) (Or.inl ⟨by rfl, ?_⟩) hHeld ?_
        rotate_left
        · rintro w ⟨s0, s1, s2⟩
          go_simp
          try with_reducible rfl
        try simp only [Act.put, List.setIfInBounds_toArray, List.set_cons_zero, List.set_cons_succ]
        refine wpAnyH_one (i := 24) rfl (by kernel_rfl) (fun K hK => ?_)
        go_simp
        refine hK.out _ _ ⟨HX3.out.cell 0 rfl, HS3.out.cell 0 rfl, HS3.out.cell 1 rfl⟩ (fun hHeld => ?_)
        clear hK K
        try simp only [Act.put, List.setIfInBounds_toArray, List.set_cons_zero, List.set_cons_succ]
        refine wpAnyH_done (by kernel_rfl) ?_ _
        refine OnlyN.normal ?_
        have cb3 := HX3.out.cell 0 rfl
        have c13 := HS3.out.cell 1 rfl
        have f13 := HS3.out.free 1
        clear hHeld hor hfr cgq cg fg hset hW3 HR2 HS2 HX2 HK HOR
        gi_wp2
        obtain ⟨a1, a2, a3, a4⟩ := HK3.out
        refine ⟨a1.trans (KeepsOthers.setCell _ _ _), keepsTwo_t a2 ⟨Below.heap_setCell _ _ _ _ (fun e => by simp at e; omega), Below.heap_setCell _ _ _ _ (fun e => by simp at e; omega)⟩, _, ⟨?_, ?_, ?_⟩, HX3.out.other (by omega), a3.trans (Wrote.set _ W3 r 1 _ (.inl rfl)), H42.out, by simp; omega⟩
        · have hg := HS3.out.set 1 (.int .i64 ((N : Int) + 1))
          rw [hsn, List.length_append, hN]
          exact hg
        · rw [hsn]
          exact HR3.out.kept (setCell_grown W3 r 1 _) (.inr (by simp [Value.ownBlock]; exact hgr))
        · simp [Value.ownBlock]; exact hgr
    · have h8' : (p : Int) ≠ 0 := by omega
      gi_wp2
      have HR2 : Hid (Row 5 W 0 v' (octV (packP L))) := Lib.hid (by rw [packP_one L (by rw [hN, hp]; exact h8)]; exact H1.out.b)
      have HS2 : Hid (Blk W r [v', .int .i64 (N : Int)] TWr) := Lib.hid (by rw [← hN]; exact H1.out.S)
      have HX2 := H2
      have H42 := H4
      have HNE := H1.out.ne
      obtain ⟨WW, hWW⟩ : ∃ WW, W = WW := ⟨_, rfl⟩
      have HK : Hid (KeepsOthers W WW ∧ KeepsTwo (w.heap.size + 1) (w.heap.size + 1 + 1) W WW ∧ Wrote (fun k => k = r ∨ v.ownBlock = some k) w WW ∧ W.heap.size ≤ WW.heap.size) := Lib.hid (by rw [← hWW]; exact ⟨KeepsOthers.refl _, ⟨rfl, rfl⟩, H3.out, Nat.le_refl _⟩)
      rw [hWW] at HR2 HS2 HX2 ⊢
      clear H1 H2 H4 cb c0 c1
      have hm : (octV (packP L)).length = q + 1 := by rw [octV, List.length_map, packP, List.length_map, List.length_range, hN, hq]
      obtain ⟨g, cap, hv2, -, hgW, hcap1, hcap2⟩ := HR2.out.at (by omega)
      rw [hm] at hv2 hcap1
      obtain ⟨hb1', hb2'⟩ := byteN_snoc L x
      rw [hN, hq, hp, ht] at hb1'
      rw [hN, hq, hp] at hb2'
      have hbl := byteN_lt L q
      obtain ⟨y8, hy8⟩ : ∃ y8, byteN (L ++ [x]) q = y8 := ⟨_, rfl⟩
      have hs8 := packN_snoc L x
      rw [hN, hq, hp, ht, ← hb1', hy8] at hs8
      rw [hy8] at hb1'
      have HOR : Hid (bits BinOp.or IntKind.u8 ((byteN L q : Nat) : Int) (IntKind.u8.wrap (((x.toNat : Nat) : Int) * 2 ^ t)) = ((y8 : Nat) : Int)) := Lib.hid (by rw [hb1', IntKind.wrap_u8]; exact or_u8_bit _ _ _ hbl (by omega) (by rw [show t + 1 = 8 - p by omega]; exact hb2'))
      subst hv2
      have cg : WW.cell? ⟨g, q, none⟩ = some (.int .u8 ((byteN L q : Nat) : Int)) := by
        rw [HR2.out.cell q (by omega), octV, List.getElem?_map, packP, List.getElem?_map, List.getElem?_range (by omega)]
        rfl
      have fg := HR2.out.free q
      have hset : (octV (packP L)).set q (.int .u8 ((y8 : Nat) : Int)) = octV (packN (L ++ [x])) := by
        rw [hs8, octV, octV, List.map_set]
      clear hb1' hb2' hy8 hs8
      obtain ⟨W3, hW3⟩ : ∃ W3, (WW.setCell ⟨g, q, none⟩ (.int .u8 ((y8 : Nat) : Int))).drew = W3 := ⟨_, rfl⟩
      have HR3 : Hid (Row 5 W3 0 (.slice (some ⟨g, 0, none⟩) (q + 1) cap) (octV (packN (L ++ [x])))) := Lib.hid (by rw [← hset, ← hW3]; exact HR2.out.drew.set q _)
      have hgr : g ≠ r := fun e => HNE (by rw [← e]; rfl)
      have HS3 : Hid (Blk W3 r [.slice (some ⟨g, 0, none⟩) (q + 1) cap, .int .i64 (N : Int)] TWr) := Lib.hid (by rw [← hW3]; exact HS2.out.drew.other (fun e => hgr e.symm))
      have hg3 : g < w.heap.size ∨ w.heap.size + 3 ≤ g := by
        rcases H42.out g rfl with h | h
        · exact .inl (H.out.b.lt g h).2
        · exact .inr h
      have HX3 : Hid (Blk W3 w.heap.size [.pointer (some ⟨r, 0, none⟩)] 73) := Lib.hid (by rw [← hW3]; exact HX2.out.drew.other (by omega))
      have HK3 : Hid (KeepsOthers W W3 ∧ KeepsTwo (w.heap.size + 1) (w.heap.size + 1 + 1) W W3 ∧ Wrote (fun k => k = r ∨ v.ownBlock = some k) w W3 ∧ W.heap.size ≤ W3.heap.size) := Lib.hid (by
        obtain ⟨a1, a2, a3, a4⟩ := HK.out
        rw [← hW3]
        refine ⟨(a1.trans (KeepsOthers.setCell _ _ _)).trans (KeepsOthers.drew _), keepsTwo_t a2 ⟨Below.heap_setCell _ _ _ _ (fun e => by simp at e; omega), Below.heap_setCell _ _ _ _ (fun e => by simp at e; omega)⟩, ?_, by simpa using a4⟩
        rcases H42.out g rfl with h | h
        · exact (a3.trans (Wrote.set _ WW g q _ (.inr h))).drew
        · exact (a3.setNew (by omega) q _).drew)
      have cgq : WW.drew.cell? ⟨g, q, none⟩ = some (.int .u8 ((byteN L q : Nat) : Int)) := cg
      refine wpIn_region_round l' _ (fun y => y.cell? ⟨w.heap.size, 0, none⟩ = some (.pointer (some ⟨r, 0, none⟩)) ∧ y.cell? ⟨r, 0, none⟩ = some (.slice (some ⟨g, 0, none⟩) (q + 1) cap) ∧ y.cell? ⟨r, 1, none⟩ = some (.int .i64 (N : Int))) (by kernel_rfl) (by kernel_rfl) ⟨HX2.out.cell 0 rfl, HS2.out.cell 0 rfl, HS2.out.cell 1 rfl⟩ (fun hHeld => ?_)
      refine wpAnyH_takeD (i := 0) (v := ?_) rfl (by kernel_rfl) (by kernel_rfl) (by kernel_rfl) (fun _ _ _ h => h) (Or.inl ⟨by rfl, ?_⟩) hHeld ?_
      rotate_left
      · rintro w ⟨s0, s1, s2⟩
        go_simp
        try with_reducible rfl
      try simp only [Act.put, List.setIfInBounds_toArray, List.set_cons_zero, List.set_cons_succ]
      refine wpAnyH_takeD (i := 1) (v := ?_) rfl (by kernel_rfl) (by kernel_rfl) (by kernel_rfl) (fun _ _ _ h => h) (Or.inl ⟨by rfl, ?_⟩) hHeld ?_
      rotate_left
      · rintro w ⟨s0, s1, s2⟩
        go_simp
        try with_reducible rfl
      try simp only [Act.put, List.setIfInBounds_toArray, List.set_cons_zero, List.set_cons_succ]
      refine wpAnyH_takeD (i := 2) (v := ?_) rfl (by kernel_rfl) (by kernel_rfl) (by kernel_rfl) (fun _ _ _ h => h) (Or.inl ⟨by rfl, ?_⟩) hHeld ?_
      rotate_left
      · rintro w ⟨s0, s1, s2⟩
        go_simp
        try with_reducible rfl
      try simp only [Act.put, List.setIfInBounds_toArray, List.set_cons_zero, List.set_cons_succ]
      refine wpAnyH_takeD (i := 3) (v := ?_) rfl (by kernel_rfl) (by kernel_rfl) (by kernel_rfl) (fun _ _ _ h => h) (Or.inl ⟨by rfl, ?_⟩) hHeld ?_
      rotate_left
      · rintro w ⟨s0, s1, s2⟩
        go_simp
        try with_reducible rfl
      try simp only [Act.put, List.setIfInBounds_toArray, List.set_cons_zero, List.set_cons_succ]
      refine wpAnyH_takeD (i := 4) (v := ?_) rfl (by kernel_rfl) (by kernel_rfl) (by kernel_rfl) (fun _ _ _ h => h) (Or.inl ⟨by rfl, ?_⟩) hHeld ?_
      rotate_left
      · rintro w ⟨s0, s1, s2⟩
        go_simp
        try with_reducible rfl
      try simp only [Act.put, List.setIfInBounds_toArray, List.set_cons_zero, List.set_cons_succ]
      refine wpAnyH_takeD (i := 5) (v := ?_) rfl (by kernel_rfl) (by kernel_rfl) (by kernel_rfl) (fun _ _ _ h => h) (Or.inl ⟨by rfl, ?_⟩) hHeld ?_
      rotate_left
      · rintro w ⟨s0, s1, s2⟩
        go_simp
        try with_reducible rfl
      try simp only [Act.put, List.setIfInBounds_toArray, List.set_cons_zero, List.set_cons_succ]
      refine wpAnyH_takeD (i := 6) (v := ?_) rfl (by kernel_rfl) (by kernel_rfl) (by kernel_rfl) (fun _ _ _ h => h) (Or.inl ⟨by rfl, ?_⟩) hHeld ?_
      rotate_left
      · rintro w ⟨s0, s1, s2⟩
        go_simp
        try with_reducible rfl
      try simp only [Act.put, List.setIfInBounds_toArray, List.set_cons_zero, List.set_cons_succ]
      refine wpAnyH_takeD (i := 7) (v := ?_) rfl (by kernel_rfl) (by kernel_rfl) (by kernel_rfl) (fun _ _ _ h => h) (Or.inl ⟨by rfl, ?_⟩) hHeld ?_
      rotate_left
      · rintro w ⟨s0, s1, s2⟩
        go_simp
        try with_reducible rfl
      try simp only [Act.put, List.setIfInBounds_toArray, List.set_cons_zero, List.set_cons_succ]
      refine wpAnyH_takeD (i := 8) (v := ?_) rfl (by kernel_rfl) (by kernel_rfl) (by kernel_rfl) (fun _ _ _ h => h) (Or.inl ⟨by rfl, ?_⟩) hHeld ?_
      rotate_left
      · rintro w ⟨s0, s1, s2⟩
        go_simp
        try with_reducible rfl
      try simp only [Act.put, List.setIfInBounds_toArray, List.set_cons_zero, List.set_cons_succ]
      refine wpAnyH_takeD (i := 9) (v := ?_) rfl (by kernel_rfl) (by kernel_rfl) (by kernel_rfl) (fun _ _ _ h => h) (Or.inl ⟨by rfl, ?_⟩) hHeld ?_
      rotate_left
      · rintro w ⟨s0, s1, s2⟩
        go_simp
        try with_reducible rfl
      try simp only [Act.put, List.setIfInBounds_toArray, List.set_cons_zero, List.set_cons_succ]
      refine wpAnyH_takeD (i := 10) (v := ?_) rfl (by kernel_rfl) (by kernel_rfl) (by kernel_rfl) (fun _ _ _ h => h) (Or.inl ⟨by rfl, ?_⟩) hHeld ?_
      rotate_left
      · rintro w ⟨s0, s1, s2⟩
        go_simp
        try with_reducible rfl
      try simp only [Act.put, List.setIfInBounds_toArray, List.set_cons_zero, List.set_cons_succ]
      refine wpAnyH_takeD (i := 11) (v := ?_) rfl (by kernel_rfl) (by kernel_rfl) (by kernel_rfl) (fun _ _ _ h => h) (Or.inl ⟨by rfl, ?_⟩) hHeld ?_
      rotate_left
      · rintro w ⟨s0, s1, s2⟩
        go_simp
        try with_reducible rfl
      try simp only [Act.put, List.setIfInBounds_toArray, List.set_cons_zero, List.set_cons_succ]
      refine wpAnyH_takeD (i := 13) (v := ?_) rfl (by kernel_rfl) (by kernel_rfl) (by kernel_rfl) (fun _ _ _ h => h) (Or.inl ⟨by rfl, ?_⟩) hHeld ?_
      rotate_left
      · rintro w ⟨s0, s1, s2⟩
        go_simp
        try with_reducible rfl
      try simp only [Act.put, List.setIfInBounds_toArray, List.set_cons_zero, List.set_cons_succ]
      refine wpAnyH_takeD (i := 14) (v := ?_) rfl (by kernel_rfl) (by kernel_rfl) (by kernel_rfl) (fun _ _ _ h => h) (Or.inl ⟨by rfl, ?_⟩) hHeld ?_
      rotate_left
      · rintro w ⟨s0, s1, s2⟩
        go_simp
        try with_reducible rfl
      try simp only [Act.put, List.setIfInBounds_toArray, List.set_cons_zero, List.set_cons_succ]
      refine wpAnyH_takeD (i := 15) (v := ?_) rfl (by kernel_rfl) (by kernel_rfl) (by kernel_rfl) (fun _ _ _ h => h) (Or.inl ⟨by rfl, ?_⟩) hHeld ?_
      rotate_left
      · rintro w ⟨s0, s1, s2⟩
        go_simp
        try with_reducible rfl
      try simp only [Act.put, List.setIfInBounds_toArray, List.set_cons_zero, List.set_cons_succ]
      refine wpAnyH_takeD (i := 16) (v := ?_) rfl (by kernel_rfl) (by kernel_rfl) (by kernel_rfl) (fun _ _ _ h => h) (Or.inl ⟨by rfl, ?_⟩) hHeld ?_
      rotate_left
      · rintro w ⟨s0, s1, s2⟩
        go_simp
        try with_reducible rfl
      try simp only [Act.put, List.setIfInBounds_toArray, List.set_cons_zero, List.set_cons_succ]
      refine wpAnyH_takeD (i := 17) (v := ?_) rfl (by kernel_rfl) (by kernel_rfl) (by kernel_rfl) (fun _ _ _ h => h) (Or.inl ⟨by rfl, ?_⟩) hHeld ?_
      rotate_left
      · rintro w ⟨s0, s1, s2⟩
        go_simp
        try with_reducible rfl
      try simp only [Act.put, List.setIfInBounds_toArray, List.set_cons_zero, List.set_cons_succ]
      refine wpAnyH_takeD (i := 18) (v := ?_) rfl (by kernel_rfl) (by kernel_rfl) (by kernel_rfl) (fun _ _ _ h => h) (Or.inl ⟨by rfl, ?_⟩) hHeld ?_
      rotate_left
      · rintro w ⟨s0, s1, s2⟩
        go_simp
        try with_reducible rfl
      try simp only [Act.put, List.setIfInBounds_toArray, List.set_cons_zero, List.set_cons_succ]
      refine wpAnyH_takeD (i := 19) (v := ?_) rfl (by kernel_rfl) (by kernel_rfl) (by kernel_rfl) (fun _ _ _ h => h) (Or.inl ⟨by rfl, ?_⟩) hHeld ?_
      rotate_left
      · rintro w ⟨s0, s1, s2⟩
        go_simp
        try with_reducible rfl
      try simp only [Act.put, List.setIfInBounds_toArray, List.set_cons_zero, List.set_cons_succ]
      refine wpAnyH_takeD (i := 20) (v := ?_) rfl (by kernel_rfl) (by kernel_rfl) (by kernel_rfl) (fun _ _ _ h => h) (Or.inl ⟨by rfl, ?_⟩) hHeld ?_
      rotate_left
      · rintro w ⟨s0, s1, s2⟩
        go_simp
        try with_reducible rfl
      try simp only [Act.put, List.setIfInBounds_toArray, List.set_cons_zero, List.set_cons_succ]
      refine wpAnyH_takeD (i := 21) (v := ?_) rfl (by kernel_rfl) (by kernel_rfl) (by kernel_rfl) (fun _ _ _ h => h) (Or.inl ⟨by rfl, ?_⟩) hHeld ?_
      rotate_left
      · rintro w ⟨s0, s1, s2⟩
        go_simp
        try with_reducible rfl
      try simp only [Act.put, List.setIfInBounds_toArray, List.set_cons_zero, List.set_cons_succ]
      have hor := HOR.out
      have hfr : WW.drew.frozen? ⟨g, q, none⟩ = false := fg
      refine wpAnyH_one (i := 12) rfl (by kernel_rfl) (fun K hK => ?_)
      go_simp
      refine hK.out _ _ hHeld (fun hHeld => ?_)
      clear hK K
      try simp only [Act.put, List.setIfInBounds_toArray, List.set_cons_zero, List.set_cons_succ]
      refine wpAnyH_takeD (i := 22) (v := ?_) rfl (by kernel_rfl) (by kernel_rfl) (by kernel_rfl) (fun _ _ _ h => h) (Or.inl ⟨by rfl, ?_⟩) hHeld ?_
      rotate_left
      · rintro w ⟨s0, s1, s2⟩
        go_simp
        try with_reducible rfl
      try simp only [Act.put, List.setIfInBounds_toArray, List.set_cons_zero, List.set_cons_succ]
      refine wpAnyH_takeD (i := 23) (v := ?_) rfl (by kernel_rfl) (by kernel_rfl) (by kernel_rfl) (fun _ _ _ h => h) (Or.inl ⟨by rfl, ?_⟩) hHeld ?_
      rotate_left
      · rintro w ⟨s0, s1, s2⟩
        go_simp
        try with_reducible rfl
      try simp only [Act.put, List.setIfInBounds_toArray, List.set_cons_zero, List.set_cons_succ]
      refine wpAnyH_one (i := 24) rfl (by kernel_rfl) (fun K hK => ?_)
      go_simp
      refine hK.out _ _ ⟨HX3.out.cell 0 rfl, HS3.out.cell 0 rfl, HS3.out.cell 1 rfl⟩ (fun hHeld => ?_)
      clear hK K
      try simp only [Act.put, List.setIfInBounds_toArray, List.set_cons_zero, List.set_cons_succ]
      refine wpAnyH_done (by kernel_rfl) ?_ _
      refine OnlyN.normal ?_
      have cb3 := HX3.out.cell 0 rfl
      have c13 := HS3.out.cell 1 rfl
      have f13 := HS3.out.free 1
      clear hHeld hor hfr cgq cg fg hset hW3 HR2 HS2 HX2 HK HOR
      gi_wp2
      obtain ⟨a1, a2, a3, a4⟩ := HK3.out
      refine ⟨a1.trans (KeepsOthers.setCell _ _ _), keepsTwo_t a2 ⟨Below.heap_setCell _ _ _ _ (fun e => by simp at e; omega), Below.heap_setCell _ _ _ _ (fun e => by simp at e; omega)⟩, _, ⟨?_, ?_, ?_⟩, HX3.out.other (by omega), a3.trans (Wrote.set _ W3 r 1 _ (.inl rfl)), H42.out, by simp; omega⟩
      · have hg := HS3.out.set 1 (.int .i64 ((N : Int) + 1))
        rw [hsn, List.length_append, hN]
        exact hg
      · rw [hsn]
        exact HR3.out.kept (setCell_grown W3 r 1 _) (.inr (by simp [Value.ownBlock]; exact hgr))
      · simp [Value.ownBlock]; exact hgr

end Go.Proofs.Ytljdkaajlmcpkaa
