/-
  BitsLaid: the walk. (Printed by mklaid.py.)
-/
import Derived.Test.YtljdkaajlmcpkaaActs3
import Derived.Test.YtljdkaajlmcpkaaTwo
import Derived.Test.YtljdkaajlmcpkaaBitsCut
import Derived.Deep.CutBlock
namespace Go.Proofs.Ytljdkaajlmcpkaa
open Go.RowKit

theorem Two.start (w : World) : ∃ v v2, Two w ((w.alloc (.cells #[.slice none 0 0, .int .i64 0] TWr)).alloc (.cells #[.slice none 0 0] TRw)) w.heap.size v [] (w.heap.size + 1) v2 [] := by
  refine ⟨.slice none 0 0, .slice none 0 0, ?_⟩
  have e : (w.alloc (.cells #[.slice none 0 0, .int .i64 0] TWr)).heap.size = w.heap.size + 1 := World.size_alloc _ _
  have hA : Wr (w.alloc (.cells #[.slice none 0 0, .int .i64 0] TWr)) w.heap.size (.slice none 0 0) [] := ⟨Blk.new w [.slice none 0 0, .int .i64 0] TWr, Row.nil _ _ _, by simp [Value.ownBlock]⟩
  have hB := Blk.new (w.alloc (.cells #[.slice none 0 0, .int .i64 0] TWr)) [.slice none 0 0] TRw
  rw [e] at hB
  have b1 : Below w.heap.size w (w.alloc (.cells #[.slice none 0 0, .int .i64 0] TWr)) := (Below.refl _ _).alloc (Nat.le_refl _) _
  exact ⟨hA.below ((Below.refl _ _).alloc (Nat.le_refl _) _), ⟨hB, Row.nil _ _ _, by simp [Value.ownBlock]⟩, b1.alloc (by omega) _, by omega, by omega, fun k e => by simp [Value.ownBlock] at e, fun k e => by simp [Value.ownBlock] at e, fun k e => by simp [Value.ownBlock] at e, by omega⟩
theorem Two.block {w0 w : World} {r1 r2 : Nat} {v v2 : Value} {l l2 : List Bool} (h : Two w0 w r1 v l r2 v2 l2) (cs : List Value) (T : TypeId) : TwoX w0 (w.alloc (.cells cs.toArray T)) r1 l r2 l2 w.heap.size cs T := by
  have hA := h.A.S.lt
  have hB := h.B.S.lt
  have hv := fun j e => h.A.b.own_lt (k := j) e
  have hv2 := fun j e => h.B.b.own_lt (k := j) e
  exact ⟨⟨v, v2, h.below ((Below.refl _ _).alloc (Nat.le_refl _) _), fun k e => by have := hv k e; omega, fun k e => by have := hv2 k e; omega⟩, Blk.new _ _ _, by omega, by omega⟩
theorem TwoX.drew {w0 w : World} {r1 r2 bx : Nat} {l l2 : List Bool} {cs : List Value} {T : TypeId} (h : TwoX w0 w r1 l r2 l2 bx cs T) : TwoX w0 w.drew r1 l r2 l2 bx cs T := h.below (Below.refl _ _).drew
theorem TwoX.kept {w0 w : World} {r1 r2 bx : Nat} {l l2 : List Bool} {cs : List Value} {T : TypeId} (h : TwoX w0 w r1 l r2 l2 bx cs T) : Below w0.heap.size w0 w := by
  obtain ⟨v, v2, h1, _⟩ := h.ex
  exact h1.bel
section
variable {w0 w : World} {r1 r2 bx : Nat} {l l' l2 : List Bool} {cs : List Value} {T : TypeId}
theorem TwoX.bytesA (h : Hid (TwoX w0 w r1 l r2 l2 bx cs T)) (s : ByteArray) (hs : s.size ≤ 1000) (hl : l.length ≤ 50000) :
    Calls Try.prog 19 #[.pointer (some ⟨r1, 0, none⟩), .string s] w fun e w' => e = .returned (.int .i64 0) ∧ Hid (TwoX w0 w' r1 (l ++ ubits s.data.toList) r2 l2 bx cs T) :=
  h.out.callA (fun v hv => wrBytes_is r1 v l s hs hl w hv)
theorem TwoX.bytesB (h : Hid (TwoX w0 w r1 l r2 l2 bx cs T)) (s : ByteArray) (hs : s.size ≤ 1000) (hl : l2.length ≤ 50000) :
    Calls Try.prog 20 #[.pointer (some ⟨r2, 0, none⟩), .string s] w fun e w' => (∃ u, e = .returned u) ∧ Hid (TwoX w0 w' r1 l r2 (l2 ++ ubits s.data.toList) bx cs T) :=
  h.out.callB (fun v hv => rwBytes_is r2 v l2 s hs hl w hv)
theorem TwoX.putA (h : Hid (TwoX w0 w r1 l r2 l2 bx cs T)) (n b p : Int) (hn : 0 ≤ n ∧ n < 18446744073709551616) (hl : l.length ≤ 100000) (hp : putE n b = p) (hl' : putL l n b = l') :
    Calls Try.prog 13 #[.pointer (some ⟨r1, 0, none⟩), .int .u64 n, .int .i64 b] w fun e w' => e = .returned (.int .i64 p) ∧ Hid (TwoX w0 w' r1 l' r2 l2 bx cs T) := by
  subst hp hl'
  exact h.out.callA (fun v hv => put_any r1 v l n b hn w hv hl)
theorem TwoX.putB (h : Hid (TwoX w0 w r1 l r2 l2 bx cs T)) (n b p : Int) (hn : 0 ≤ n ∧ n < 18446744073709551616) (hl : l2.length ≤ 100000) (hp : putE n b = p) (hl' : putL l2 n b = l') :
    Calls Try.prog 21 #[.pointer (some ⟨r2, 0, none⟩), .int .u64 n, .int .i64 b] w fun e w' => e = .returned (.int .i64 p) ∧ Hid (TwoX w0 w' r1 l r2 l' bx cs T) := by
  subst hp hl'
  exact h.out.callB (fun v hv => rput_any r2 v l2 n b hn w hv hl)
end
theorem putL_le (l : List Bool) (n b : Int) : (putL l n b).length ≤ l.length + 64 := by
  unfold putL
  by_cases h : putE n b = 0
  · have hb : ¬ (b < 1 ∨ 64 < b) := fun h' => by rw [putE, if_pos h'] at h; omega
    rw [if_pos h, List.length_append, bitsL_length]
    omega
  · rw [if_neg h]
    omega

set_option maxRecDepth 100000 in
set_option maxHeartbeats 4000000 in
theorem bitsLaid_walk (a0 : Option Addr) (len0 cap0 : Nat) (w : World) (hr0 : IsActs3 w a0 len0) :
    Calls Try.prog 4 #[.slice a0 len0 cap0] w fun e w' => e = .returned (.bool true) ∧ Below w.heap.size w w' := by
  have HR := Lib.hid hr0
  clear hr0
  go_enter Try.func4, Try.ntmps4
  obtain ⟨ru, hru⟩ : ∃ ru, w.heap.size + 1 = ru := ⟨_, rfl⟩
  have B0 := Lib.hid (Two.start w)
  rw [hru] at B0
  go_upto_block 0 with fail
  try simp only [World.size_alloc]
  try simp only [hru]
  go_cut [] (fun wc => ∃ l : List Bool, l.length ≤ 8960 ∧ Hid (∃ v v2, Two w wc w.heap.size v l ru v2 l))
  case first =>
    go_wp2_with fail
    clear hru
    go_loopw [5] (fun iv wr => ∃ (i : Nat) (l : List Bool), i ≤ 40 ∧ l.length ≤ 224 * i ∧ iv = .int .i64 i ∧ Hid (∃ v v2, Two w wr w.heap.size v l ru v2 l)) (fun iv _ => 40 - (intOf iv).toNat)
    case atStart => exact ⟨0, [], by omega, by simp, rfl, B0⟩
    case round =>
      obtain ⟨i, l, hi40, hll, rfl, HB⟩ := hrel
      clear B0
      by_cases h1 : i < len0
      · have h1' : (i : Int) < len0 := by omega
        by_cases h2 : i < 40
        · have h2' : (i : Int) < 40 := by omega
          obtain ⟨b, off, t, n, z, rfl, hb, c0, c1, c2, ht, hn, hz⟩ := HR.out i h1
          have hd := fun wz (h : Below w.heap.size w wz) => And.intro ((h.cell (p := ⟨b, off + i * 3, none⟩) hb).trans c0) (And.intro ((h.cell (p := ⟨b, off + i * 3 + 1, none⟩) hb).trans c1) ((h.cell (p := ⟨b, off + i * 3 + 2, none⟩) hb).trans c2))
          obtain ⟨d0, d1, d2⟩ := hd wr (by obtain ⟨_, _, h⟩ := HB.out; exact h.bel)
          obtain ⟨bx, hbx⟩ : ∃ bx, wr.heap.size = bx := ⟨_, rfl⟩
          obtain ⟨wx, hwx⟩ : ∃ wx, wr.alloc (.cells #[.string t, .int .u64 n, .int .i64 z] 46) = wx := ⟨_, rfl⟩
          have X0 : Hid (TwoX w wx w.heap.size l ru l bx [.string t, .int .u64 n, .int .i64 z] 46) := Lib.hid (by obtain ⟨_, _, h⟩ := HB.out; rw [← hwx, ← hbx]; exact h.block _ _)
          clear hd c0 c1 c2 HB
          have hx0 := X0.out.X.cell 0 rfl
          obtain hte | hte : t.toList.isEmpty = true ∨ t.toList.isEmpty = false := by cases t.toList.isEmpty <;> simp
          · have hl6' : l.length ≤ 224 * i + 160 := by omega
            go_wp2_with fail
            have XD : Hid (TwoX w wx.drew w.heap.size l ru l bx [_, .int .u64 n, .int .i64 z] 46) := Lib.hid X0.out.drew
            have hx1 := XD.out.X.cell 1 rfl
            have hx2 := XD.out.X.cell 2 rfl
            obtain ⟨p, hp⟩ : ∃ p, putE n z = p := ⟨_, rfl⟩
            obtain ⟨l7, hl7⟩ : ∃ l7, putL l n z = l7 := ⟨_, rfl⟩
            have hl7' := putL_le l n z
            rw [hl7] at hl7'
            have HP := Lib.hid hp
            have HL7 := Lib.hid hl7
            clear hp hl7
            obtain ⟨S, hS⟩ := bytes_as (packL l7)
            have HS := Lib.hid hS
            clear hS X0
            refine wp_region_noPanic ?_
            refine wp_region_held_drew (S := (fun w' => w'.cell? ⟨bx, 1, none⟩ = some (.int .u64 n) ∧ w'.cell? ⟨bx, 2, none⟩ = some (.int .i64 z))) (by kernel_rfl) (⟨hx1, hx2⟩) (fun hHeld => ?_)
            refine wpAnyH_takeD (i := 0) (v := ?_) rfl (by kernel_rfl) (by kernel_rfl) (by kernel_rfl) (fun _ _ _ h => h) (Or.inl ⟨by rfl, ?_⟩) hHeld ?_
            rotate_left
            · rintro w ⟨hS1, hS2⟩
              go_simp
              try with_reducible rfl
            try simp only [Act.put, List.setIfInBounds_toArray, List.set_cons_zero, List.set_cons_succ]
            refine wpAnyH_takeD (i := 1) (v := ?_) rfl (by kernel_rfl) (by kernel_rfl) (by kernel_rfl) (fun _ _ _ h => h) (Or.inl ⟨by rfl, ?_⟩) hHeld ?_
            rotate_left
            · rintro w ⟨hS1, hS2⟩
              go_simp
              try with_reducible rfl
            try simp only [Act.put, List.setIfInBounds_toArray, List.set_cons_zero, List.set_cons_succ]
            refine wpAnyH_takeD (i := 2) (v := ?_) rfl (by kernel_rfl) (by kernel_rfl) (by kernel_rfl) (fun _ _ _ h => h) (Or.inl ⟨by rfl, ?_⟩) hHeld ?_
            rotate_left
            · rintro w ⟨hS1, hS2⟩
              go_simp
              try with_reducible rfl
            try simp only [Act.put, List.setIfInBounds_toArray, List.set_cons_zero, List.set_cons_succ]
            refine wpAnyH_takeD (i := 3) (v := ?_) rfl (by kernel_rfl) (by kernel_rfl) (by kernel_rfl) (fun _ _ _ h => h) (Or.inl ⟨by rfl, ?_⟩) hHeld ?_
            rotate_left
            · rintro w ⟨hS1, hS2⟩
              go_simp
              try with_reducible rfl
            try simp only [Act.put, List.setIfInBounds_toArray, List.set_cons_zero, List.set_cons_succ]
            refine wpAnyH_takeD (i := 5) (v := ?_) rfl (by kernel_rfl) (by kernel_rfl) (by kernel_rfl) (fun _ _ _ h => h) (Or.inl ⟨by rfl, ?_⟩) hHeld ?_
            rotate_left
            · rintro w ⟨hS1, hS2⟩
              go_simp
              try with_reducible rfl
            try simp only [Act.put, List.setIfInBounds_toArray, List.set_cons_zero, List.set_cons_succ]
            refine wpAnyH_takeD (i := 6) (v := ?_) rfl (by kernel_rfl) (by kernel_rfl) (by kernel_rfl) (fun _ _ _ h => h) (Or.inl ⟨by rfl, ?_⟩) hHeld ?_
            rotate_left
            · rintro w ⟨hS1, hS2⟩
              go_simp
              try with_reducible rfl
            try simp only [Act.put, List.setIfInBounds_toArray, List.set_cons_zero, List.set_cons_succ]
            refine wpAnyH_takeD (i := 7) (v := ?_) rfl (by kernel_rfl) (by kernel_rfl) (by kernel_rfl) (fun _ _ _ h => h) (Or.inl ⟨by rfl, ?_⟩) hHeld ?_
            rotate_left
            · rintro w ⟨hS1, hS2⟩
              go_simp
              try with_reducible rfl
            try simp only [Act.put, List.setIfInBounds_toArray, List.set_cons_zero, List.set_cons_succ]
            refine wpAnyH_takeD (i := 8) (v := ?_) rfl (by kernel_rfl) (by kernel_rfl) (by kernel_rfl) (fun _ _ _ h => h) (Or.inl ⟨by rfl, ?_⟩) hHeld ?_
            rotate_left
            · rintro w ⟨hS1, hS2⟩
              go_simp
              try with_reducible rfl
            try simp only [Act.put, List.setIfInBounds_toArray, List.set_cons_zero, List.set_cons_succ]
            refine wpAnyH_takeD (i := 9) (v := ?_) rfl (by kernel_rfl) (by kernel_rfl) (by kernel_rfl) (fun _ _ _ h => h) (Or.inl ⟨by rfl, ?_⟩) hHeld ?_
            rotate_left
            · rintro w ⟨hS1, hS2⟩
              go_simp
              try with_reducible rfl
            try simp only [Act.put, List.setIfInBounds_toArray, List.set_cons_zero, List.set_cons_succ]
            refine wpAnyH_one (i := 4) rfl (by kernel_rfl) (fun K hK => ?_)
            go_simp
            refine (TwoX.putA XD n z p (by omega) (by omega) HP.out HL7.out).mono ?_
            rintro e w8 ⟨rfl, X8⟩
            refine hK.out _ _ (⟨X8.out.X.cell 1 rfl, X8.out.X.cell 2 rfl⟩) (fun hHeld => ?_)
            clear hK K
            try simp only [Act.put, List.setIfInBounds_toArray, List.set_cons_zero, List.set_cons_succ]
            clear XD
            refine wpAnyH_one (i := 10) rfl (by kernel_rfl) (fun K hK => ?_)
            go_simp
            refine (TwoX.putB X8 n z p (by omega) (by omega) HP.out HL7.out).mono ?_
            rintro e w9 ⟨rfl, X9⟩
            refine hK.out _ _ (⟨X9.out.X.cell 1 rfl, X9.out.X.cell 2 rfl⟩) (fun hHeld => ?_)
            clear hK K
            try simp only [Act.put, List.setIfInBounds_toArray, List.set_cons_zero, List.set_cons_succ]
            clear X8
            refine wpAnyH_takeD (i := 11) (v := ?_) rfl (by kernel_rfl) (by kernel_rfl) (by kernel_rfl) (fun _ _ _ h => h) (Or.inl ⟨by rfl, ?_⟩) hHeld ?_
            rotate_left
            · rintro w hSw
              go_simp
              try with_reducible rfl
            try simp only [Act.put, List.setIfInBounds_toArray, List.set_cons_zero, List.set_cons_succ]
            refine wpAnyH_takeD (i := 12) (v := ?_) rfl (by kernel_rfl) (by kernel_rfl) (by kernel_rfl) (fun _ _ _ h => h) (Or.inl ⟨by rfl, ?_⟩) hHeld ?_
            rotate_left
            · rintro w hSw
              go_simp
              try with_reducible rfl
            try simp only [Act.put, List.setIfInBounds_toArray, List.set_cons_zero, List.set_cons_succ]
            refine wpAnyH_takeD (i := 14) (v := ?_) rfl (by kernel_rfl) (by kernel_rfl) (by kernel_rfl) (fun _ _ _ h => h) (Or.inl ⟨by rfl, ?_⟩) hHeld ?_
            rotate_left
            · rintro w hSw
              go_simp
              try with_reducible rfl
            try simp only [Act.put, List.setIfInBounds_toArray, List.set_cons_zero, List.set_cons_succ]
            refine wpAnyH_one (i := 13) rfl (by kernel_rfl) (fun K hK => ?_)
            go_simp
            refine (TwoX.textA X9 S HS).mono ?_
            rintro e wa ⟨rfl, qa⟩
            have Xa := Lib.hid (X9.out.below qa)
            clear qa X9
            refine hK.out _ _ (⟨Xa.out.X.cell 1 rfl, Xa.out.X.cell 2 rfl⟩) (fun hHeld => ?_)
            clear hK K
            try simp only [Act.put, List.setIfInBounds_toArray, List.set_cons_zero, List.set_cons_succ]
            refine wpAnyH_one (i := 15) rfl (by kernel_rfl) (fun K hK => ?_)
            go_simp
            refine (TwoX.textB Xa (by omega) S HS).mono ?_
            rintro e wb ⟨rfl, qb⟩
            have Xb := Lib.hid (Xa.out.below qb)
            clear qb Xa
            refine hK.out _ _ (⟨Xb.out.X.cell 1 rfl, Xb.out.X.cell 2 rfl⟩) (fun hHeld => ?_)
            clear hK K
            try simp only [Act.put, List.setIfInBounds_toArray, List.set_cons_zero, List.set_cons_succ]
            refine wpAnyH_takeD (i := 16) (v := ?_) rfl (by kernel_rfl) (by kernel_rfl) (by kernel_rfl) (fun _ _ _ h => h) (Or.inl ⟨by rfl, ?_⟩) hHeld ?_
            rotate_left
            · rintro w hSw
              go_simp
              try with_reducible rfl
            try simp only [Act.put, List.setIfInBounds_toArray, List.set_cons_zero, List.set_cons_succ]
            refine wpAnyH_takeD (i := 17) (v := ?_) rfl (by kernel_rfl) (by kernel_rfl) (by kernel_rfl) (fun _ _ _ h => h) (Or.inl ⟨by rfl, ?_⟩) hHeld ?_
            rotate_left
            · rintro w hSw
              go_simp
              try with_reducible rfl
            try simp only [Act.put, List.setIfInBounds_toArray, List.set_cons_zero, List.set_cons_succ]
            refine wpAnyH_done (by kernel_rfl) ?_ _
            refine NoPanic.normal ?_
            clear hHeld hx1 hx2
            go_wp2_with fail
            exact ⟨⟨i + 1, l7, by omega, by omega, by go_num, Lib.hid (by obtain ⟨v, v2, h, _⟩ := Xb.out.ex; exact ⟨v, v2, h⟩)⟩, by simp [intOf]; omega⟩
          · obtain ⟨s, hc, hs⟩ := cut_str t 20
            rcases hc with ⟨hc, rfl⟩ | ⟨hc, hc2⟩
            all_goals
              have hul : (ubits s.data.toList).length = 8 * s.size := by rw [ubits_length, len_bytes]
              go_wp2_with fail
              refine (TwoX.bytesA X0 s (by omega) (by omega)).mono ?_
              rintro e w5 ⟨rfl, X5⟩
              clear X0
              go_wp2_with fail
              refine (TwoX.bytesB X5 s (by omega) (by omega)).mono ?_
              rintro e w6 ⟨⟨u, rfl⟩, X6⟩
              clear X5
              obtain ⟨l6, hl6⟩ : ∃ l6, l ++ ubits s.data.toList = l6 := ⟨_, rfl⟩
              have hl6' : l6.length ≤ 224 * i + 160 := by rw [← hl6, List.length_append]; omega
              rw [hl6] at X6
              clear hl6
              go_wp2_with fail
              have XD : Hid (TwoX w w6.drew w.heap.size l6 ru l6 bx [_, .int .u64 n, .int .i64 z] 46) := Lib.hid X6.out.drew
              have hx1 := XD.out.X.cell 1 rfl
              have hx2 := XD.out.X.cell 2 rfl
              obtain ⟨p, hp⟩ : ∃ p, putE n z = p := ⟨_, rfl⟩
              obtain ⟨l7, hl7⟩ : ∃ l7, putL l6 n z = l7 := ⟨_, rfl⟩
              have hl7' := putL_le l6 n z
              rw [hl7] at hl7'
              have HP := Lib.hid hp
              have HL7 := Lib.hid hl7
              clear hp hl7
              obtain ⟨S, hS⟩ := bytes_as (packL l7)
              have HS := Lib.hid hS
              clear hS X6
              refine wp_region_noPanic ?_
              refine wp_region_held_drew (S := (fun w' => w'.cell? ⟨bx, 1, none⟩ = some (.int .u64 n) ∧ w'.cell? ⟨bx, 2, none⟩ = some (.int .i64 z))) (by kernel_rfl) (⟨hx1, hx2⟩) (fun hHeld => ?_)
              refine wpAnyH_takeD (i := 0) (v := ?_) rfl (by kernel_rfl) (by kernel_rfl) (by kernel_rfl) (fun _ _ _ h => h) (Or.inl ⟨by rfl, ?_⟩) hHeld ?_
              rotate_left
              · rintro w ⟨hS1, hS2⟩
                go_simp
                try with_reducible rfl
              try simp only [Act.put, List.setIfInBounds_toArray, List.set_cons_zero, List.set_cons_succ]
              refine wpAnyH_takeD (i := 1) (v := ?_) rfl (by kernel_rfl) (by kernel_rfl) (by kernel_rfl) (fun _ _ _ h => h) (Or.inl ⟨by rfl, ?_⟩) hHeld ?_
              rotate_left
              · rintro w ⟨hS1, hS2⟩
                go_simp
                try with_reducible rfl
              try simp only [Act.put, List.setIfInBounds_toArray, List.set_cons_zero, List.set_cons_succ]
              refine wpAnyH_takeD (i := 2) (v := ?_) rfl (by kernel_rfl) (by kernel_rfl) (by kernel_rfl) (fun _ _ _ h => h) (Or.inl ⟨by rfl, ?_⟩) hHeld ?_
              rotate_left
              · rintro w ⟨hS1, hS2⟩
                go_simp
                try with_reducible rfl
              try simp only [Act.put, List.setIfInBounds_toArray, List.set_cons_zero, List.set_cons_succ]
              refine wpAnyH_takeD (i := 3) (v := ?_) rfl (by kernel_rfl) (by kernel_rfl) (by kernel_rfl) (fun _ _ _ h => h) (Or.inl ⟨by rfl, ?_⟩) hHeld ?_
              rotate_left
              · rintro w ⟨hS1, hS2⟩
                go_simp
                try with_reducible rfl
              try simp only [Act.put, List.setIfInBounds_toArray, List.set_cons_zero, List.set_cons_succ]
              refine wpAnyH_takeD (i := 5) (v := ?_) rfl (by kernel_rfl) (by kernel_rfl) (by kernel_rfl) (fun _ _ _ h => h) (Or.inl ⟨by rfl, ?_⟩) hHeld ?_
              rotate_left
              · rintro w ⟨hS1, hS2⟩
                go_simp
                try with_reducible rfl
              try simp only [Act.put, List.setIfInBounds_toArray, List.set_cons_zero, List.set_cons_succ]
              refine wpAnyH_takeD (i := 6) (v := ?_) rfl (by kernel_rfl) (by kernel_rfl) (by kernel_rfl) (fun _ _ _ h => h) (Or.inl ⟨by rfl, ?_⟩) hHeld ?_
              rotate_left
              · rintro w ⟨hS1, hS2⟩
                go_simp
                try with_reducible rfl
              try simp only [Act.put, List.setIfInBounds_toArray, List.set_cons_zero, List.set_cons_succ]
              refine wpAnyH_takeD (i := 7) (v := ?_) rfl (by kernel_rfl) (by kernel_rfl) (by kernel_rfl) (fun _ _ _ h => h) (Or.inl ⟨by rfl, ?_⟩) hHeld ?_
              rotate_left
              · rintro w ⟨hS1, hS2⟩
                go_simp
                try with_reducible rfl
              try simp only [Act.put, List.setIfInBounds_toArray, List.set_cons_zero, List.set_cons_succ]
              refine wpAnyH_takeD (i := 8) (v := ?_) rfl (by kernel_rfl) (by kernel_rfl) (by kernel_rfl) (fun _ _ _ h => h) (Or.inl ⟨by rfl, ?_⟩) hHeld ?_
              rotate_left
              · rintro w ⟨hS1, hS2⟩
                go_simp
                try with_reducible rfl
              try simp only [Act.put, List.setIfInBounds_toArray, List.set_cons_zero, List.set_cons_succ]
              refine wpAnyH_takeD (i := 9) (v := ?_) rfl (by kernel_rfl) (by kernel_rfl) (by kernel_rfl) (fun _ _ _ h => h) (Or.inl ⟨by rfl, ?_⟩) hHeld ?_
              rotate_left
              · rintro w ⟨hS1, hS2⟩
                go_simp
                try with_reducible rfl
              try simp only [Act.put, List.setIfInBounds_toArray, List.set_cons_zero, List.set_cons_succ]
              refine wpAnyH_one (i := 4) rfl (by kernel_rfl) (fun K hK => ?_)
              go_simp
              refine (TwoX.putA XD n z p (by omega) (by omega) HP.out HL7.out).mono ?_
              rintro e w8 ⟨rfl, X8⟩
              refine hK.out _ _ (⟨X8.out.X.cell 1 rfl, X8.out.X.cell 2 rfl⟩) (fun hHeld => ?_)
              clear hK K
              try simp only [Act.put, List.setIfInBounds_toArray, List.set_cons_zero, List.set_cons_succ]
              clear XD
              refine wpAnyH_one (i := 10) rfl (by kernel_rfl) (fun K hK => ?_)
              go_simp
              refine (TwoX.putB X8 n z p (by omega) (by omega) HP.out HL7.out).mono ?_
              rintro e w9 ⟨rfl, X9⟩
              refine hK.out _ _ (⟨X9.out.X.cell 1 rfl, X9.out.X.cell 2 rfl⟩) (fun hHeld => ?_)
              clear hK K
              try simp only [Act.put, List.setIfInBounds_toArray, List.set_cons_zero, List.set_cons_succ]
              clear X8
              refine wpAnyH_takeD (i := 11) (v := ?_) rfl (by kernel_rfl) (by kernel_rfl) (by kernel_rfl) (fun _ _ _ h => h) (Or.inl ⟨by rfl, ?_⟩) hHeld ?_
              rotate_left
              · rintro w hSw
                go_simp
                try with_reducible rfl
              try simp only [Act.put, List.setIfInBounds_toArray, List.set_cons_zero, List.set_cons_succ]
              refine wpAnyH_takeD (i := 12) (v := ?_) rfl (by kernel_rfl) (by kernel_rfl) (by kernel_rfl) (fun _ _ _ h => h) (Or.inl ⟨by rfl, ?_⟩) hHeld ?_
              rotate_left
              · rintro w hSw
                go_simp
                try with_reducible rfl
              try simp only [Act.put, List.setIfInBounds_toArray, List.set_cons_zero, List.set_cons_succ]
              refine wpAnyH_takeD (i := 14) (v := ?_) rfl (by kernel_rfl) (by kernel_rfl) (by kernel_rfl) (fun _ _ _ h => h) (Or.inl ⟨by rfl, ?_⟩) hHeld ?_
              rotate_left
              · rintro w hSw
                go_simp
                try with_reducible rfl
              try simp only [Act.put, List.setIfInBounds_toArray, List.set_cons_zero, List.set_cons_succ]
              refine wpAnyH_one (i := 13) rfl (by kernel_rfl) (fun K hK => ?_)
              go_simp
              refine (TwoX.textA X9 S HS).mono ?_
              rintro e wa ⟨rfl, qa⟩
              have Xa := Lib.hid (X9.out.below qa)
              clear qa X9
              refine hK.out _ _ (⟨Xa.out.X.cell 1 rfl, Xa.out.X.cell 2 rfl⟩) (fun hHeld => ?_)
              clear hK K
              try simp only [Act.put, List.setIfInBounds_toArray, List.set_cons_zero, List.set_cons_succ]
              refine wpAnyH_one (i := 15) rfl (by kernel_rfl) (fun K hK => ?_)
              go_simp
              refine (TwoX.textB Xa (by omega) S HS).mono ?_
              rintro e wb ⟨rfl, qb⟩
              have Xb := Lib.hid (Xa.out.below qb)
              clear qb Xa
              refine hK.out _ _ (⟨Xb.out.X.cell 1 rfl, Xb.out.X.cell 2 rfl⟩) (fun hHeld => ?_)
              clear hK K
              try simp only [Act.put, List.setIfInBounds_toArray, List.set_cons_zero, List.set_cons_succ]
              refine wpAnyH_takeD (i := 16) (v := ?_) rfl (by kernel_rfl) (by kernel_rfl) (by kernel_rfl) (fun _ _ _ h => h) (Or.inl ⟨by rfl, ?_⟩) hHeld ?_
              rotate_left
              · rintro w hSw
                go_simp
                try with_reducible rfl
              try simp only [Act.put, List.setIfInBounds_toArray, List.set_cons_zero, List.set_cons_succ]
              refine wpAnyH_takeD (i := 17) (v := ?_) rfl (by kernel_rfl) (by kernel_rfl) (by kernel_rfl) (fun _ _ _ h => h) (Or.inl ⟨by rfl, ?_⟩) hHeld ?_
              rotate_left
              · rintro w hSw
                go_simp
                try with_reducible rfl
              try simp only [Act.put, List.setIfInBounds_toArray, List.set_cons_zero, List.set_cons_succ]
              refine wpAnyH_done (by kernel_rfl) ?_ _
              refine NoPanic.normal ?_
              clear hHeld hx1 hx2
              go_wp2_with fail
              exact ⟨⟨i + 1, l7, by omega, by omega, by go_num, Lib.hid (by obtain ⟨v, v2, h, _⟩ := Xb.out.ex; exact ⟨v, v2, h⟩)⟩, by simp [intOf]; omega⟩
        · have h2' : ¬ (i : Int) < 40 := by omega
          go_wp2_with fail
          go_meet
          case rel => exact ⟨l, by omega, HB⟩
      · have h1' : ¬ (i : Int) < len0 := by omega
        go_wp2_with fail
        go_meet
        case rel => exact ⟨l, by omega, HB⟩
  case rest =>
    obtain ⟨l, hl, HB⟩ := hcut
    clear B0 hru
    obtain ⟨S, hS⟩ := bytes_as (packL l)
    have HS := Lib.hid hS
    go_wp2_with fail
    refine (text_in w _ l S HS _ (Lib.hid (by obtain ⟨v, v2, h⟩ := HB.out; exact ⟨v, h.A, h.bel, h.h1, fun k e => (h.hv k e).1⟩))).mono ?_
    rintro e w3 ⟨rfl, q3⟩
    have B3 : Hid (∃ v v2, Two w w3 w.heap.size v l ru v2 l) := Lib.hid (by obtain ⟨v, v2, h⟩ := HB.out; exact ⟨v, v2, h.below q3⟩)
    clear q3 HB hS
    go_wp2_with fail
    refine (show Calls Try.prog _ _ _ fun e w' => e = .returned (.string S) ∧ Below w3.heap.size w3 w' from (by obtain ⟨v, v2, h⟩ := B3.out; exact rwText_is ru v2 l (by omega) S HS.out w3 h.B)).mono ?_
    rintro e w4 ⟨rfl, q4⟩
    have B4 : Hid (∃ v v2, Two w w4 w.heap.size v l ru v2 l) := Lib.hid (by obtain ⟨v, v2, h⟩ := B3.out; exact ⟨v, v2, h.below q4⟩)
    clear q4 B3
    go_wp2_with fail
    refine (works01 _).mono ?_
    rintro e w5 ⟨rfl, q5⟩
    go_wp2_with fail
    go_returns
    obtain ⟨v, v2, h⟩ := B4.out
    exact ⟨rfl, bthen h.bel q5⟩
end Go.Proofs.Ytljdkaajlmcpkaa
