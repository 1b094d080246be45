/-
  aerialref01.Writer.Text: by contract.
-/
import Derived.Test.YtljdkaajlmcpkaaBits9
import Derived.Laws.AppendOwnNone
namespace Go.Proofs.Ytljdkaajlmcpkaa
open Go.RowKit

theorem bytesAt_cons (l : List Bool) (n : Nat) : bytesAt l (n + 1) = UInt8.ofNat (valL (l.take 8)) :: bytesAt (l.drop 8) n := by
  simp only [bytesAt, List.range_succ_eq_map, List.map_cons, List.map_map, Nat.mul_zero, List.drop_zero]
  congr 1
  apply List.map_congr_left
  intro i _
  simp only [Function.comp]
  rw [List.drop_drop, show 8 * i.succ = 8 + 8 * i by omega]
theorem bytesAt_ubits : ∀ s : List UInt8, bytesAt (ubits s) s.length = s
  | [] => rfl
  | c :: s => by
    rw [List.length_cons, bytesAt_cons, ubits_cons, List.take_append_of_le_length (by rw [bitsL_length]; omega), List.take_of_length_le (by rw [bitsL_length]; omega), List.drop_append, List.drop_of_length_le (by rw [bitsL_length]; omega), bitsL_length, Nat.sub_self, List.drop_zero, List.nil_append, bytesAt_ubits s, valL_bitsL 8 c.toNat c.toNat_lt, UInt8.ofNat_toNat]
theorem bytesAt_pack (l : List Bool) (k q : Nat) (h : l.length + k = 8 * q) (hq : q = (l.length + 7) / 8) : bytesAt (l ++ List.replicate k false) q = packL l := by
  have e := ubits_packL l
  rw [← hq, show 8 * q - l.length = k by omega] at e
  rw [← e]
  have hl : (packL l).length = q := by rw [packL_length, hq]
  rw [← hl]
  exact bytesAt_ubits _
/-- 'append(v, v2...)', v2 nil or empty too. -/
theorem push_bools0 {w : World} {B B2 : Nat} {v v2 : Value} {l m : List Bool} (h : Row 4 w B v (boolV l)) (h2 : Row 4 w B2 v2 (boolV m)) (hB : B ≤ w.heap.size) (hl : l.length + m.length ≤ 1000000) :
    ∃ v' w', (Builtin.append_ #[42, 42] 42 #[v, v2]).run Try.prog w = .ok v' w' ∧ Row 4 w' B v' (boolV (l ++ m)) ∧ w.grownBy w' v.ownBlock := by
  obtain ⟨i0, hi, hz0, hz1, hz2⟩ := info_parts bool_info
  obtain ⟨a, c2, hv2⟩ := h2.form
  rw [boolV_length] at hv2
  subst hv2
  cases a with
  | none =>
    have hm : m = [] ∧ c2 = 0 := by
      rcases h2.2 with ⟨h0, h1⟩ | ⟨g, cap, cur, h0, _⟩
      · rw [boolV_length] at h1
        simp at h0
        exact ⟨List.eq_nil_of_length_eq_zero h1, h0.2⟩
      · simp at h0
    obtain ⟨rfl, rfl⟩ := hm
    refine ⟨v, w, run_append_owned_none (P := Try.prog) (w := w) B 42 42 4 i0 1 Try.underlying42 hi v _ _ h, by rw [List.append_nil]; exact h, ⟨rfl, rfl, rfl, Nat.le_refl _, fun _ _ _ => rfl⟩⟩
  | some x =>
    obtain ⟨g, hg⟩ : ∃ g, x = ⟨g, 0, none⟩ := by
      rcases h2.2 with ⟨h0, _⟩ | ⟨g, cap', cur, h0, _⟩
      · simp at h0
      · simp at h0; exact ⟨g, h0.1⟩
    subst hg
    obtain ⟨v', w', hr, r1, r2, _⟩ := run_append_own (P := Try.prog) w B 42 42 4 i0 (.bool false) 1 1 Try.underlying42 hi hz0 hz1 hz2 rfl (by decide) v _ _ h ⟨g, 0, none⟩ m.length c2 (boolV m) (by rw [boolV_length, Nat.mul_one])
      (fun j u hu => by
        have hj := (List.getElem?_eq_some_iff.1 hu).1
        rw [Addr.add_lit, Nat.zero_add, h2.cell j hj]
        exact hu) (boolV_one m) (by rw [boolV_length]; unfold maxLen; omega) (by rw [boolV_length]; omega) hB
    refine ⟨v', w', hr, ?_, r2⟩
    unfold Row
    rw [← boolV_append, List.length_append]
    rw [boolV_length m]
    exact r1
def sliceLen : Value → Nat
  | .slice _ n _ => n
  | _ => 0
set_option maxRecDepth 100000 in
set_option maxHeartbeats 400000 in
theorem rwText_is (r : Nat) (v : Value) (l : List Bool) (hl : l.length ≤ 20000) (T : ByteArray) (hT : T.data.toList = packL l) (w : World) (h : Rw w r v l) : Calls Try.prog 22 #[.pointer (some ⟨r, 0, none⟩)] w fun e w' => e = .returned (.string T) ∧ Below w.heap.size w w' := by
  have c0 := h.S.cell 0 rfl
  have c1 := (h.S.alloc (.cells #[] 4)).cell 0 rfl
  have r0 : Row 4 (w.alloc (.cells #[] 4)) w.heap.size (.slice (some ⟨w.heap.size, 0, none⟩) 0 0) (boolV []) := World.ownsRow_lit w #[] 0 (Nat.le_refl _) (by decide) rfl
  obtain ⟨v1, w1, hrun, r1, g1⟩ := push_bools0 r0 (h.b.alloc _) (by simp) (by simp; omega)
  rw [List.nil_append] at r1
  have Q1 : Hid (Below w.heap.size w w1) := Lib.hid (((Below.refl _ w).alloc (Nat.le_refl _) _).grown g1 (by simp) (fun k e => by simp [Value.ownBlock] at e; omega))
  have R1 := Lib.hid r1
  clear r0 r1 g1 h
  obtain ⟨q, hq⟩ : ∃ q, (l.length + 7) / 8 = q := ⟨_, rfl⟩
  go_enter Try.func22, Try.ntmps22
  go_wp2_with (at_builtin; refine wpList_append_known rfl (.tmp 6) (.tmp 10) 42 rfl _ _ _ _ rfl rfl hrun ?_)
  clear hrun c0 c1
  go_loopw [3] (fun u wr => ∃ k : Nat, l.length + k ≤ 8 * q ∧ Hid (Row 4 wr w.heap.size u (boolV (l ++ List.replicate k false))) ∧ Hid (Below w.heap.size w wr)) (fun u _ => 8 * q - sliceLen u)
  case atStart => exact ⟨0, by omega, Lib.hid (by rw [List.replicate_zero, List.append_nil]; exact R1.out), Q1⟩
  case round =>
    rename_i u wr
    obtain ⟨k, hk, HR, HB⟩ := hrel
    clear R1 Q1
    obtain ⟨a, cap, hv⟩ := HR.out.form
    have hLl : (boolV (l ++ List.replicate k false)).length = l.length + k := by rw [boolV_length, List.length_append, List.length_replicate]
    rw [hLl] at hv
    subst hv
    obtain ⟨N, hN⟩ : ∃ N, l.length + k = N := ⟨_, rfl⟩
    rw [hN] at HR ⊢
    by_cases h8 : N % 8 = 0
    · have h8' : (N : Int) % 8 = 0 := by omega
      have hNq : N = 8 * q := by omega
      subst hNq
      have hfin := bytesAt_pack l k q hN hq.symm
      obtain ⟨L, hL⟩ : ∃ L, l ++ List.replicate k false = L := ⟨_, rfl⟩
      rw [hL] at hfin HR hLl
      rw [boolV_length] at hLl
      clear hL
      go_wp2_with fail
      generalize wr = wo at *
      go_loopw [4, 5] (fun v i wz => ∃ j : Nat, ∃ S : ByteArray, j ≤ q ∧ i = .int .i64 ((8 * j : Nat) : Int) ∧ v = .string S ∧ S.data.toList = bytesAt L j ∧ Hid (Below wo.heap.size wo wz)) (fun _ i _ => 8 * q - (intOf i).toNat)
      case atStart => exact ⟨0, ⟨#[]⟩, by omega, rfl, rfl, rfl, Lib.hid (Below.refl _ _)⟩
      case round =>
        obtain ⟨j, S, hj, rfl, rfl, hS, HZ⟩ := hrel
        by_cases hlt : j < q
        · have hlt2 : (((8 * j : Nat) : Int)) < 8 * (q : Int) := by omega
          have hSs : S.size = j := by rw [← len_bytes, hS, bytesAt_length]
          obtain ⟨g, cap', hv, -, hg, h1, h2⟩ := HR.out.at (by rw [boolV_length]; omega)
          rw [boolV_length, hLl, hN] at hv h1
          simp at hv
          obtain ⟨rfl, rfl⟩ := hv
          unfold maxLen at h2
          have hB := HR.out.bools.below HZ.out hg
          have hB2 := (hB.drop (8 * j)).take 8
          rw [Nat.zero_add] at hB2
          have HN := Lib.hid (fun c => number_is g (8 * j) 8 c ((L.drop (8 * j)).take 8) (by rw [List.length_take, List.length_drop]; omega) (by decide) wr hB2)
          have hv8 := val8_lt (L.drop (8 * j))
          have hb := bytesAt_succ L j
          obtain ⟨x, hx⟩ : ∃ x, valL ((L.drop (8 * j)).take 8) = x := ⟨_, rfl⟩
          rw [hx] at hv8 HN hb
          have hxw : IntKind.u8.wrap (x : Int) = x := by rw [IntKind.wrap_u8]; omega
          obtain ⟨X, hX⟩ := bytes_as [UInt8.ofNat x]
          have hXs : X.size = 1 := bytes_as_size hX
          have hcv : ∀ (y : World) c, (convert 23 9 (.slice (some ⟨y.heap.size, 0, none⟩) 1 c)).run Try.prog (y.alloc (.cells #[.int .u8 (x : Int)] 5)) = .ok (.string X) (y.alloc (.cells #[.int .u8 (x : Int)] 5)) := fun y c => by
            have e : X = ⟨#[UInt8.ofNat ((x : Int)).toNat]⟩ := by
              apply ByteArray.ext
              exact Array.toList_inj.1 (by rw [hX]; rfl)
            rw [e]
            exact conv_one y x c
          have HB2 := Lib.hid (show (S ++ X).data.toList = bytesAt L (j + 1) by rw [ByteArray.data_append, Array.toList_append, hS, hX, hb])
          clear hx hb hX hS hB hB2 HB
          obtain ⟨J, hJ⟩ : ∃ J, 8 * j = J := ⟨_, rfl⟩
          have hJ1 : (J : Int) + 8 ≤ cap := by omega
          have hJ2 : J + 8 ≤ cap := by omega
          have hJ3 : cap - J ≠ 0 := by omega
          have hJ4 : (J : Int) ≤ (J : Int) + 8 := by omega
          have hJ5 : cap ≠ J := by omega
          rw [hJ] at hlt2 HN ⊢
          have hJ6 : J + 8 - J = 8 := by omega
          go_wp2_with fail
          refine (HN.out _).mono ?_
          rintro e _ ⟨rfl, rfl⟩
          go_wp2_with fail
          exact ⟨⟨j + 1, S ++ X, by omega, by congr 1; omega, rfl, HB2.out, Lib.hid (HZ.out.alloc HZ.out.size _)⟩, by simp [intOf]; omega⟩
        · obtain rfl : j = q := by omega
          have e : S = T := by
            apply ByteArray.ext
            exact Array.toList_inj.1 (by rw [hS, hT, hfin])
          subst e
          have hng : ¬ (((8 * j : Nat) : Int)) < 8 * (j : Int) := by omega
          go_wp2_with fail
          go_returns
          exact ⟨rfl, HB.out.trans (HZ.out.mono HB.out.size)⟩
    · have h8' : (0 : Int) < (N : Int) % 8 := by omega
      obtain ⟨g, cap2, w2, hrun, r1, r2, r3, r4⟩ := push_bool HR.out HB.out.size (by rw [List.length_append, List.length_replicate]; omega) false
      have hlen2 : (l ++ List.replicate k false).length = N := by rw [List.length_append, List.length_replicate]; exact hN
      rw [hlen2] at hrun
      rw [hlen2, List.append_assoc, ← List.replicate_succ'] at r1
      have R1 := Lib.hid r1
      have Q1 : Hid (Below w.heap.size w w2) := Lib.hid (HB.out.grown r2 HB.out.size (fun k e => (HR.out.lt k e).1))
      clear r1 r2 r3 r4 HR HB hlen2 hLl
      go_wp2_with (at_builtin; refine wpList_append_known rfl (.tmp 16) (.tmp 17) 42 rfl _ _ _ _ rfl rfl hrun ?_)
      exact ⟨⟨k + 1, by omega, R1, Q1⟩, by simp [sliceLen]; omega⟩

end Go.Proofs.Ytljdkaajlmcpkaa
