/-
  ReportKnown: the walk. (Printed by mkrk.py.)
-/
import Derived.Test.YtljdkaajlmcpkaaReport7
import Derived.Deep.CutBlock
namespace Go.Proofs.Ytljdkaajlmcpkaa
open Go.RowKit

theorem enc_ok (t q x : Int) (h : repE t q x = 0) : ∃ S, Hid (encode t q x = (S, 0)) := ⟨(encode t q x).1, Lib.hid (by
  unfold encode
  rw [if_pos h])⟩
abbrev GL : List Value := [.int .i64 0, .int .u32 1, .int .i64 0, .int .i64 7, .int .u32 4294967295, .int .i64 5000, .int .i64 3, .int .u32 16777216, .int .i64 (-4999)]
/-- The strings that are none, what is wrong with each. -/
def badL (k : Nat) : List UInt8 := if k = 0 then [8, 0, 0, 0, 1, 0, 0] else if k = 1 then [0, 0, 0, 0, 0, 0, 0] else [0, 0, 0, 0, 1, 39, 17]
def badC (k : Nat) : Nat := if k = 0 then 221 else if k = 1 then 0 else 128
def badE (k : Nat) : Int := if k = 0 then 9 else 2
theorem bad_facts : ∀ k : Nat, k < 3 → crcL (badL k) = badC k ∧ badC k < 256 := by decide +kernel
def badS (k : Nat) : ByteArray := ⟨(badL k).toArray⟩
theorem bad_small : ∀ k : Nat, k < 3 → (badS k).size ≤ maxLen
  | 0, _ => by decide
  | 1, _ => by decide
  | 2, _ => by decide
theorem bad_cat : ∀ k : Nat, k < 3 → (badS k).size + (ByteArray.mk #[UInt8.ofNat (badC k)]).size = 8
  | 0, _ => rfl
  | 1, _ => rfl
  | 2, _ => rfl
theorem bad_cell {v : World} {B : Nat} {T : TypeId} (X : Blk v B [.string { data := #[8, 0, 0, 0, 1, 0, 0] }, .string { data := #[0, 0, 0, 0, 0, 0, 0] }, .string { data := #[0, 0, 0, 0, 1, 39, 17] }] T) : ∀ {k : Nat}, k < 3 → v.cell? ⟨B, k, none⟩ = some (.string (badS k))
  | 0, _ => X.cell 0 rfl
  | 1, _ => X.cell 1 rfl
  | 2, _ => X.cell 2 rfl
theorem want_cell {v : World} {B : Nat} {T : TypeId} (X : Blk v B [.int .i64 9, .int .i64 2, .int .i64 2] T) : ∀ {k : Nat}, k < 3 → v.cell? ⟨B, k, none⟩ = some (.int .i64 (badE k))
  | 0, _ => X.cell 0 rfl
  | 1, _ => X.cell 1 rfl
  | 2, _ => X.cell 2 rfl
set_option maxRecDepth 100000 in
theorem bad_dec : ∀ k : Nat, k < 3 → decode (badS k ++ ⟨#[UInt8.ofNat (badC k)]⟩) = (repV 0 0 0, badE k)
  | 0, _ => by rfl
  | 1, _ => by rfl
  | 2, _ => by rfl
/-- One byte as a string, wherever the struct has been made. -/
theorem conv_early (n : Nat) (CB : ByteArray) (hCB : CB = ⟨#[UInt8.ofNat n]⟩) : ∀ (v : World) (o : Obj), (convert 23 9 (.slice (some ⟨v.heap.size + 1, 0, none⟩) 1 1)).run Try.prog ((v.alloc o).alloc (.cells #[.int .u8 n] 5)) = .ok (.string CB) ((v.alloc o).alloc (.cells #[.int .u8 n] 5)) := fun v o => by
  have := conv_byte (w := ((v.alloc o).alloc (.cells #[.int .u8 n] 5))) (Blk.new (v.alloc o) [.int .u8 n] _) 1
  rw [World.size_alloc, ← hCB] at this
  exact this
theorem conv_late (n : Nat) (CB : ByteArray) (hCB : CB = ⟨#[UInt8.ofNat n]⟩) : ∀ (v : World) (o : Obj), (convert 23 9 (.slice (some ⟨v.heap.size, 0, none⟩) 1 1)).run Try.prog ((v.alloc (.cells #[.int .u8 n] 5)).alloc o) = .ok (.string CB) ((v.alloc (.cells #[.int .u8 n] 5)).alloc o) := fun v o => by
  have := conv_byte (w := ((v.alloc (.cells #[.int .u8 n] 5)).alloc o)) ((Blk.new v [.int .u8 n] _).alloc o) 1
  rw [← hCB] at this
  exact this
theorem conv_plain (n : Nat) (CB : ByteArray) (hCB : CB = ⟨#[UInt8.ofNat n]⟩) : ∀ (v : World), (convert 23 9 (.slice (some ⟨v.heap.size, 0, none⟩) 1 1)).run Try.prog (v.alloc (.cells #[.int .u8 n] 5)) = .ok (.string CB) (v.alloc (.cells #[.int .u8 n] 5)) := fun v => by
  have := conv_byte (w := (v.alloc (.cells #[.int .u8 n] 5))) (Blk.new v [.int .u8 n] _) 1
  rw [← hCB] at this
  exact this
def Zeroed (w : World) (b : Nat) : Prop :=
  w.cell? ⟨b, 0, none⟩ = some (.int .i64 0) ∧ w.cell? ⟨b, 1, none⟩ = some (.int .u32 0) ∧ w.cell? ⟨b, 2, none⟩ = some (.int .i64 0) ∧ w.frozen? ⟨b, 0, none⟩ = false ∧ w.frozen? ⟨b, 1, none⟩ = false ∧ w.frozen? ⟨b, 2, none⟩ = false
theorem z_early {v w : World} {o : Obj} (k : Below ((v.alloc zeroObj).alloc o).heap.size ((v.alloc zeroObj).alloc o) w) : Zeroed w v.heap.size := rep_kept ((Blk.new v [.int .i64 0, .int .u32 0, .int .i64 0] TRep).alloc o) k
theorem z_late {v w : World} {o : Obj} (k : Below ((v.alloc o).alloc zeroObj).heap.size ((v.alloc o).alloc zeroObj) w) : Zeroed w (v.heap.size + 1) := by
  have := rep_kept (Blk.new (v.alloc o) [.int .i64 0, .int .u32 0, .int .i64 0] TRep) k
  rw [World.size_alloc] at this
  exact this
theorem z_pre {v w4 w5 : World} {o : Obj} (b4 : Below (v.alloc zeroObj).drew.heap.size (v.alloc zeroObj).drew w4) (b5 : Below (w4.alloc o).heap.size (w4.alloc o) w5) : Zeroed w5 v.heap.size :=
  rep_kept (((Blk.new v [.int .i64 0, .int .u32 0, .int .i64 0] TRep).drew.below b4 (by simp)).alloc o) b5
theorem mid_one {v w4 w5 : World} {o : Obj} (b4 : Below v.drew.heap.size v.drew w4) (b5 : Below (w4.alloc o).heap.size (w4.alloc o) w5) : Below v.heap.size v w5 := by
  have h1 : Below v.heap.size v w4 := ((Below.refl _ _).drew).trans b4
  exact (h1.alloc h1.size o).trans (b5.mono (h1.alloc h1.size o).size)
theorem mid_pre {v w4 w5 : World} {o o' : Obj} (b4 : Below (v.alloc o').drew.heap.size (v.alloc o').drew w4) (b5 : Below (w4.alloc o).heap.size (w4.alloc o) w5) : Below v.heap.size v w5 := by
  have h0 : Below v.heap.size v (v.alloc o').drew := ((Below.refl _ _).alloc (Nat.le_refl _) _).drew
  have h1 : Below v.heap.size v w4 := h0.trans (b4.mono h0.size)
  exact (h1.alloc h1.size o).trans (b5.mono (h1.alloc h1.size o).size)
theorem mid_two {v w4 w5 : World} {o o' : Obj} (b4 : Below v.drew.heap.size v.drew w4) (b5 : Below ((w4.alloc o).alloc o').heap.size ((w4.alloc o).alloc o') w5) : Below v.heap.size v w5 := by
  have h1 : Below v.heap.size v w4 := ((Below.refl _ _).drew).trans b4
  have h2 := (h1.alloc h1.size o).alloc (h1.alloc h1.size o).size o'
  exact h2.trans (b5.mono h2.size)
theorem mid_size {v w4 : World} (b4 : Below v.drew.heap.size v.drew w4) : v.heap.size ≤ w4.heap.size := b4.size
theorem kept_three {w : World} {B k : Nat} {v : Value} (b : Nat) {x y z : Value} (hb : B < b) (h : w.cell? ⟨B, k, none⟩ = some v) : (((w.setCell ⟨b, 0, none⟩ x).setCell ⟨b, 1, none⟩ y).setCell ⟨b, 2, none⟩ z).cell? ⟨B, k, none⟩ = some v := by
  rw [World.cell?_setCell_other _ _ _ _ (fun e => by injection e; omega), World.cell?_setCell_other _ _ _ _ (fun e => by injection e; omega), World.cell?_setCell_other _ _ _ _ (fun e => by injection e; omega)]
  exact h
theorem fin_alloc {v w : World} {o : Obj} (h : Below v.heap.size v w) : Below v.heap.size v (w.alloc o) := h.alloc h.size o
theorem fin_set {v w : World} (h : Below v.heap.size v w) (b : Nat) (hb : v.heap.size ≤ b) (x y z : Value) : Below v.heap.size v (((w.setCell ⟨b, 0, none⟩ x).setCell ⟨b, 1, none⟩ y).setCell ⟨b, 2, none⟩ z) :=
  ((h.setCell hb _).setCell hb _).setCell hb _

set_option maxRecDepth 100000 in
set_option maxHeartbeats 3200000 in
theorem reportKnown_walk (w : World) : Calls Try.prog 9 #[] w fun e w' => e = .returned (.bool true) ∧ Below w.heap.size w w' := by
  obtain ⟨w1, hw1⟩ : ∃ w1, w.alloc (.cells #[.int .i64 0, .int .u32 1, .int .i64 0, .int .i64 7, .int .u32 4294967295, .int .i64 5000, .int .i64 3, .int .u32 16777216, .int .i64 (-4999)] TRep) = w1 := ⟨_, rfl⟩
  have G1 : Hid (Blk w1 w.heap.size GL TRep) := Lib.hid (by rw [← hw1]; exact Blk.new w GL TRep)
  have b1 : Hid (Below w.heap.size w w1) := Lib.hid (by rw [← hw1]; exact (Below.refl _ _).alloc (Nat.le_refl _) _)
  go_enter Try.func9, Try.ntmps9
  go_wp2_with fail
  clear hw1
  go_loopw [2] (fun i wr => ∃ k : Nat, k ≤ 3 ∧ i = .int .i64 k ∧ Hid (Blk wr w.heap.size GL TRep) ∧ Hid (Below w.heap.size w wr)) (fun i _ => 3 - (intOf i).toNat)
  case atStart => exact ⟨0, by omega, rfl, G1, b1⟩
  case round =>
    obtain ⟨k, hk, rfl, G, bel⟩ := hrel
    clear G1 b1
    match k, hk with
    | 0, _ =>
      have G2 := G.out
      have c0 := G2.cell 0 rfl
      have c1 := G2.cell 1 rfl
      have c2 := G2.cell 2 rfl
      clear G2
      obtain ⟨S, hen⟩ := enc_ok 0 1 0 (by decide +kernel)
      have hd : Hid (decode S = (repV 0 1 0, 0)) := Lib.hid (by have := decode_encode 0 1 0 (by decide) (by decide +kernel); rw [hen.out] at this; exact this)
      go_wp2_with fail
      refine (encE 0 1 0 S 0 hen.out (by decide) _).mono ?_
      rintro e wa ⟨rfl, qa⟩
      have Ga := Lib.hid (G.out.below qa G.out.lt)
      go_wp2_with fail
      refine (dcE S _ 0 hd _).mono ?_
      rintro e wb ⟨rfl, qb⟩
      have Gb := Lib.hid (Ga.out.below qb Ga.out.lt)
      have bb : Hid (Below w.heap.size w wb) := Lib.hid (bel.out.trans ((bthen qa qb).mono bel.out.size))
      clear qa qb Ga
      have c0 := (Gb.out.alloc (.cells #[.int .i64 0, .int .u32 1, .int .i64 0] TRep)).cell 0 rfl
      have c1 := (Gb.out.alloc (.cells #[.int .i64 0, .int .u32 1, .int .i64 0] TRep)).cell 1 rfl
      have c2 := (Gb.out.alloc (.cells #[.int .i64 0, .int .u32 1, .int .i64 0] TRep)).cell 2 rfl
      go_upto_region 7 with fail
      go_region
      go_wp2_with fail
      exact ⟨⟨1, by omega, by go_num, Lib.hid (Gb.out.alloc _).drew, Lib.hid (bb.out.alloc bb.out.size _).drew⟩, by decide⟩
    | 1, _ =>
      have G2 := G.out
      have c0 := G2.cell 3 rfl
      have c1 := G2.cell 4 rfl
      have c2 := G2.cell 5 rfl
      clear G2
      obtain ⟨S, hen⟩ := enc_ok 7 4294967295 5000 (by decide +kernel)
      have hd : Hid (decode S = (repV 7 4294967295 5000, 0)) := Lib.hid (by have := decode_encode 7 4294967295 5000 (by decide) (by decide +kernel); rw [hen.out] at this; exact this)
      go_wp2_with fail
      refine (encE 7 4294967295 5000 S 0 hen.out (by decide) _).mono ?_
      rintro e wa ⟨rfl, qa⟩
      have Ga := Lib.hid (G.out.below qa G.out.lt)
      go_wp2_with fail
      refine (dcE S _ 0 hd _).mono ?_
      rintro e wb ⟨rfl, qb⟩
      have Gb := Lib.hid (Ga.out.below qb Ga.out.lt)
      have bb : Hid (Below w.heap.size w wb) := Lib.hid (bel.out.trans ((bthen qa qb).mono bel.out.size))
      clear qa qb Ga
      have c0 := (Gb.out.alloc (.cells #[.int .i64 7, .int .u32 4294967295, .int .i64 5000] TRep)).cell 3 rfl
      have c1 := (Gb.out.alloc (.cells #[.int .i64 7, .int .u32 4294967295, .int .i64 5000] TRep)).cell 4 rfl
      have c2 := (Gb.out.alloc (.cells #[.int .i64 7, .int .u32 4294967295, .int .i64 5000] TRep)).cell 5 rfl
      go_upto_region 7 with fail
      go_region
      go_wp2_with fail
      exact ⟨⟨2, by omega, by go_num, Lib.hid (Gb.out.alloc _).drew, Lib.hid (bb.out.alloc bb.out.size _).drew⟩, by decide⟩
    | 2, _ =>
      have G2 := G.out
      have c0 := G2.cell 6 rfl
      have c1 := G2.cell 7 rfl
      have c2 := G2.cell 8 rfl
      clear G2
      obtain ⟨S, hen⟩ := enc_ok 3 16777216 (-4999) (by decide +kernel)
      have hd : Hid (decode S = (repV 3 16777216 (-4999), 0)) := Lib.hid (by have := decode_encode 3 16777216 (-4999) (by decide) (by decide +kernel); rw [hen.out] at this; exact this)
      go_wp2_with fail
      refine (encE 3 16777216 (-4999) S 0 hen.out (by decide) _).mono ?_
      rintro e wa ⟨rfl, qa⟩
      have Ga := Lib.hid (G.out.below qa G.out.lt)
      go_wp2_with fail
      refine (dcE S _ 0 hd _).mono ?_
      rintro e wb ⟨rfl, qb⟩
      have Gb := Lib.hid (Ga.out.below qb Ga.out.lt)
      have bb : Hid (Below w.heap.size w wb) := Lib.hid (bel.out.trans ((bthen qa qb).mono bel.out.size))
      clear qa qb Ga
      have c0 := (Gb.out.alloc (.cells #[.int .i64 3, .int .u32 16777216, .int .i64 (-4999)] TRep)).cell 6 rfl
      have c1 := (Gb.out.alloc (.cells #[.int .i64 3, .int .u32 16777216, .int .i64 (-4999)] TRep)).cell 7 rfl
      have c2 := (Gb.out.alloc (.cells #[.int .i64 3, .int .u32 16777216, .int .i64 (-4999)] TRep)).cell 8 rfl
      go_upto_region 7 with fail
      go_region
      go_wp2_with fail
      exact ⟨⟨3, by omega, by go_num, Lib.hid (Gb.out.alloc _).drew, Lib.hid (bb.out.alloc bb.out.size _).drew⟩, by decide⟩
    | 3, _ =>
      have G2 := G.out
      have c0 := G2.cell 3 rfl
      have c1 := G2.cell 4 rfl
      have c2 := G2.cell 5 rfl
      clear G2
      obtain ⟨S, hS⟩ : ∃ S : ByteArray, S = ⟨#[7, 255, 255, 255, 255, 39, 16, 46]⟩ := ⟨_, rfl⟩
      obtain ⟨S7, hS7⟩ : ∃ S : ByteArray, S = ⟨#[7, 255, 255, 255, 255, 39, 16]⟩ := ⟨_, rfl⟩
      obtain ⟨Sx, hSx⟩ : ∃ T : ByteArray, S ++ ⟨#[120]⟩ = T := ⟨_, rfl⟩
      have hsn : S.size = 8 := by rw [hS]; rfl
      have hsz : (S.size : Int) = 8 := by omega
      have h78 : (7 : Int) ≤ S.size := by omega
      have hen : Hid (encode 7 4294967295 5000 = (S, 0)) := Lib.hid (by rw [hS]; decide +kernel)
      have e7 : S.extract 0 7 = S7 := by rw [hS, hS7]; decide +kernel
      have hlit : S7.toList = [7, 255, 255, 255, 255, 39, 16] := by rw [hS7]; decide +kernel
      have hdx : Hid (decode Sx = (repV 0 0 0, 4)) := Lib.hid (by rw [← hSx, hS]; rfl)
      clear hS hS7
      go_wp2_with fail
      refine (encE 7 4294967295 5000 S 0 hen.out (by decide) _).mono ?_
      rintro e wa ⟨rfl, qa⟩
      have ba : Hid (Below w.heap.size w wa) := Lib.hid (bel.out.trans (qa.mono bel.out.size))
      clear qa G bel
      go_wp2_with fail
      obtain ⟨wb, hwb⟩ : ∃ wb, (wa.alloc (.cells #[.string { data := #[8, 0, 0, 0, 1, 0, 0] }, .string { data := #[0, 0, 0, 0, 0, 0, 0] }, .string { data := #[0, 0, 0, 0, 1, 39, 17] }] 9)).alloc (.cells #[.int .i64 9, .int .i64 2, .int .i64 2] 65) = wb := ⟨_, rfl⟩
      have X1 : Hid (Blk wb wa.heap.size [.string { data := #[8, 0, 0, 0, 1, 0, 0] }, .string { data := #[0, 0, 0, 0, 0, 0, 0] }, .string { data := #[0, 0, 0, 0, 1, 39, 17] }] 9) := Lib.hid (by rw [← hwb]; exact (Blk.new wa [.string { data := #[8, 0, 0, 0, 1, 0, 0] }, .string { data := #[0, 0, 0, 0, 0, 0, 0] }, .string { data := #[0, 0, 0, 0, 1, 39, 17] }] _).alloc _)
      have Y1 : Hid (Blk wb (wa.heap.size + 1) [.int .i64 9, .int .i64 2, .int .i64 2] 65) := Lib.hid (by
        rw [← hwb]
        have := Blk.new (wa.alloc (.cells #[.string { data := #[8, 0, 0, 0, 1, 0, 0] }, .string { data := #[0, 0, 0, 0, 0, 0, 0] }, .string { data := #[0, 0, 0, 0, 1, 39, 17] }] 9)) [.int .i64 9, .int .i64 2, .int .i64 2] 65
        rw [World.size_alloc] at this
        exact this)
      have bb : Hid (Below w.heap.size w wb) := Lib.hid (by rw [← hwb]; exact (ba.out.alloc ba.out.size _).alloc (ba.out.alloc ba.out.size _).size _)
      rw [hwb]
      clear hwb ba
      generalize wa.heap.size = B at *
      go_loopw [11] (fun i wr => ∃ k : Nat, k ≤ 3 ∧ i = .int .i64 k ∧ Hid (Blk wr B [.string { data := #[8, 0, 0, 0, 1, 0, 0] }, .string { data := #[0, 0, 0, 0, 0, 0, 0] }, .string { data := #[0, 0, 0, 0, 1, 39, 17] }] 9) ∧ Hid (Blk wr (B + 1) [.int .i64 9, .int .i64 2, .int .i64 2] 65) ∧ Hid (Below w.heap.size w wr)) (fun i _ => 3 - (intOf i).toNat)
      case atStart => exact ⟨0, by omega, rfl, X1, Y1, bb⟩
      case round =>
        obtain ⟨k, hk, rfl, X, Y, bel⟩ := hrel
        clear X1 Y1 bb
        by_cases hk3 : k < 3
        · have hc0 : wr.drew.cell? ⟨B, k, none⟩ = some (.string (badS k)) := bad_cell X.out.drew hk3
          have HCW : Hid (∀ v, Blk v (B + 1) [.int .i64 9, .int .i64 2, .int .i64 2] 65 → v.cell? ⟨B + 1, k, none⟩ = some (.int .i64 (badE k))) := Lib.hid (fun v Y => want_cell Y hk3)
          have hc1 : (wr.alloc zeroObj).drew.cell? ⟨B, k, none⟩ = some (.string (badS k)) := bad_cell (X.out.alloc zeroObj).drew hk3
          have hsum : Hid (crcL (badS k).data.toList = badC k) := Lib.hid (bad_facts k hk3).1
          obtain ⟨CB, hCB⟩ : ∃ S : ByteArray, S = ⟨#[UInt8.ofNat (badC k)]⟩ := ⟨_, rfl⟩
          have hdec : Hid (decode (badS k ++ CB) = (repV 0 0 0, badE k)) := Lib.hid (by rw [hCB]; exact bad_dec k hk3)
          have hcl : (badS k).size ≤ maxLen := bad_small k hk3
          have hcat : (badS k).size + CB.size = 8 := by rw [hCB]; exact bad_cat k hk3
          generalize badS k = T at *
          generalize badC k = c at *
          generalize badE k = E at *
          have k1 := conv_early c CB hCB
          have k2 := conv_late c CB hCB
          have k3 := conv_plain c CB hCB
          have hk4 : (k : Int) < 3 := by omega
          clear hCB
          go_upto_region 17 with fail
          go_cut [12, 13] (fun p g wx => g = .int .i64 E ∧ Hid (Blk wx B [.string { data := #[8, 0, 0, 0, 1, 0, 0] }, .string { data := #[0, 0, 0, 0, 0, 0, 0] }, .string { data := #[0, 0, 0, 0, 1, 39, 17] }] 9) ∧ Hid (Blk wx (B + 1) [.int .i64 9, .int .i64 2, .int .i64 2] 65) ∧ Hid (Below w.heap.size w wx))
          case first =>
            have HR : Hid (∀ wx, Below wr.heap.size wr wx → Hid (Blk wx B [.string { data := #[8, 0, 0, 0, 1, 0, 0] }, .string { data := #[0, 0, 0, 0, 0, 0, 0] }, .string { data := #[0, 0, 0, 0, 1, 39, 17] }] 9) ∧ Hid (Blk wx (B + 1) [.int .i64 9, .int .i64 2, .int .i64 2] 65) ∧ Hid (Below w.heap.size w wx))   := Lib.hid (fun wx F => ⟨Lib.hid (X.out.below F X.out.lt), Lib.hid (Y.out.below F Y.out.lt), Lib.hid (bel.out.trans (F.mono bel.out.size))⟩)
            have hBlt := X.out.lt
            refine wp_region_noPanic ?_
            refine wp_region_held_drew (S := (fun w' => w'.cell? ⟨B, k, none⟩ = some (.string T))) (by kernel_rfl) (hc0) (fun hHeld => ?_)
            refine wpAnyH_takeD (i := 0) (v := ?_) rfl (by kernel_rfl) (by kernel_rfl) (by kernel_rfl) (fun _ _ _ h => h) (Or.inl ⟨by rfl, ?_⟩) hHeld ?_
            rotate_left
            · rintro w hSw
              go_simp
              try with_reducible rfl
            try simp only [Act.put, List.setIfInBounds_toArray, List.set_cons_zero, List.set_cons_succ]
            refine wpAnyH_takeD (i := 1) (v := ?_) rfl (by kernel_rfl) (by kernel_rfl) (by kernel_rfl) (fun _ _ _ h => h) (Or.inl ⟨by rfl, ?_⟩) hHeld ?_
            rotate_left
            · rintro w hSw
              go_simp
              try with_reducible rfl
            try simp only [Act.put, List.setIfInBounds_toArray, List.set_cons_zero, List.set_cons_succ]
            refine wpAnyH_takeD (i := 2) (v := ?_) rfl (by kernel_rfl) (by kernel_rfl) (by kernel_rfl) (fun _ _ _ h => h) (Or.inl ⟨by rfl, ?_⟩) hHeld ?_
            rotate_left
            · rintro w hSw
              go_simp
              try with_reducible rfl
            try simp only [Act.put, List.setIfInBounds_toArray, List.set_cons_zero, List.set_cons_succ]
            refine wpAnyH_takeD (i := 3) (v := ?_) rfl (by kernel_rfl) (by kernel_rfl) (by kernel_rfl) (fun _ _ _ h => h) (Or.inl ⟨by rfl, ?_⟩) hHeld ?_
            rotate_left
            · rintro w hSw
              go_simp
              try with_reducible rfl
            try simp only [Act.put, List.setIfInBounds_toArray, List.set_cons_zero, List.set_cons_succ]
            refine wpAnyH_takeD (i := 4) (v := ?_) rfl (by kernel_rfl) (by kernel_rfl) (by kernel_rfl) (fun _ _ _ h => h) (Or.inl ⟨by rfl, ?_⟩) hHeld ?_
            rotate_left
            · rintro w hSw
              go_simp
              try with_reducible rfl
            try simp only [Act.put, List.setIfInBounds_toArray, List.set_cons_zero, List.set_cons_succ]
            refine wpAnyH_takeD (i := 5) (v := ?_) rfl (by kernel_rfl) (by kernel_rfl) (by kernel_rfl) (fun _ _ _ h => h) (Or.inl ⟨by rfl, ?_⟩) hHeld ?_
            rotate_left
            · rintro w hSw
              go_simp
              try with_reducible rfl
            try simp only [Act.put, List.setIfInBounds_toArray, List.set_cons_zero, List.set_cons_succ]
            refine wpAnyH_takeD (i := 6) (v := ?_) rfl (by kernel_rfl) (by kernel_rfl) (by kernel_rfl) (fun _ _ _ h => h) (Or.inl ⟨by rfl, ?_⟩) hHeld ?_
            rotate_left
            · rintro w hSw
              go_simp
              try with_reducible rfl
            try simp only [Act.put, List.setIfInBounds_toArray, List.set_cons_zero, List.set_cons_succ]
            refine wpAnyH_takeD (i := 7) (v := ?_) rfl (by kernel_rfl) (by kernel_rfl) (by kernel_rfl) (fun _ _ _ h => h) (Or.inl ⟨by rfl, ?_⟩) hHeld ?_
            rotate_left
            · rintro w hSw
              go_simp
              try with_reducible rfl
            try simp only [Act.put, List.setIfInBounds_toArray, List.set_cons_zero, List.set_cons_succ]
            refine wpAnyH_two (i := 8) (j := 16) rfl rfl (by kernel_rfl) (fun K hK => ?_) (fun K hK => ?_)
            · go_simp
              refine (sumE T c hsum hcl _).mono ?_
              rintro e w4 ⟨rfl, b4⟩
              have hs4 : wr.heap.size ≤ w4.heap.size := b4.size
              refine hK.out _ _ (by first | exact hHeld | exact (World.cell?_alloc_lt _ _ _ (World.block_lt_of_cell? _ _ hHeld)).trans hHeld | exact (b5.cell (p := ⟨B, k, none⟩) (World.block_lt_of_cell? _ _ hHeld)).trans hHeld | exact (b4.cell (p := ⟨B, k, none⟩) (World.block_lt_of_cell? _ _ hHeld)).trans hHeld | exact kept_three _ (by omega) hHeld) (fun hHeld => ?_)
              clear hK K
              try simp only [Act.put, List.setIfInBounds_toArray, List.set_cons_zero, List.set_cons_succ]
              refine wpAnyH_two (i := 9) (j := 16) rfl rfl (by kernel_rfl) (fun K hK => ?_) (fun K hK => ?_)
              · go_simp
                refine hK.out _ _ (by first | exact hHeld | exact (World.cell?_alloc_lt _ _ _ (World.block_lt_of_cell? _ _ hHeld)).trans hHeld | exact (b5.cell (p := ⟨B, k, none⟩) (World.block_lt_of_cell? _ _ hHeld)).trans hHeld | exact (b4.cell (p := ⟨B, k, none⟩) (World.block_lt_of_cell? _ _ hHeld)).trans hHeld | exact kept_three _ (by omega) hHeld) (fun hHeld => ?_)
                clear hK K
                try simp only [Act.put, List.setIfInBounds_toArray, List.set_cons_zero, List.set_cons_succ]
                refine wpAnyH_two (i := 10) (j := 16) rfl rfl (by kernel_rfl) (fun K hK => ?_) (fun K hK => ?_)
                · go_simp
                  refine hK.out _ _ (by first | exact hHeld | exact (World.cell?_alloc_lt _ _ _ (World.block_lt_of_cell? _ _ hHeld)).trans hHeld | exact (b5.cell (p := ⟨B, k, none⟩) (World.block_lt_of_cell? _ _ hHeld)).trans hHeld | exact (b4.cell (p := ⟨B, k, none⟩) (World.block_lt_of_cell? _ _ hHeld)).trans hHeld | exact kept_three _ (by omega) hHeld) (fun hHeld => ?_)
                  clear hK K
                  try simp only [Act.put, List.setIfInBounds_toArray, List.set_cons_zero, List.set_cons_succ]
                  refine wpAnyH_takeD (i := 11) (v := ?_) rfl (by kernel_rfl) (by kernel_rfl) (by kernel_rfl) (fun _ _ _ h => h) (Or.inl ⟨by rfl, ?_⟩) hHeld ?_
                  rotate_left
                  · rintro w hSw
                    go_simp
                    try with_reducible rfl
                  try simp only [Act.put, List.setIfInBounds_toArray, List.set_cons_zero, List.set_cons_succ]
                  refine wpAnyH_two (i := 12) (j := 16) rfl rfl (by kernel_rfl) (fun K hK => ?_) (fun K hK => ?_)
                  · go_simp
                    refine (decE (T ++ CB) _ E hdec.out _).mono ?_
                    rintro e w5 ⟨rfl, b5⟩
                    refine hK.out _ _ (by first | exact hHeld | exact (World.cell?_alloc_lt _ _ _ (World.block_lt_of_cell? _ _ hHeld)).trans hHeld | exact (b5.cell (p := ⟨B, k, none⟩) (World.block_lt_of_cell? _ _ hHeld)).trans hHeld | exact (b4.cell (p := ⟨B, k, none⟩) (World.block_lt_of_cell? _ _ hHeld)).trans hHeld | exact kept_three _ (by omega) hHeld) (fun hHeld => ?_)
                    clear hK K
                    try simp only [Act.put, List.setIfInBounds_toArray, List.set_cons_zero, List.set_cons_succ]
                    refine wpAnyH_takeD (i := 13) (v := ?_) rfl (by kernel_rfl) (by kernel_rfl) (by kernel_rfl) (fun _ _ _ h => h) (Or.inl ⟨by rfl, ?_⟩) hHeld ?_
                    rotate_left
                    · rintro w hSw
                      go_simp
                      try with_reducible rfl
                    try simp only [Act.put, List.setIfInBounds_toArray, List.set_cons_zero, List.set_cons_succ]
                    refine wpAnyH_takeD (i := 14) (v := ?_) rfl (by kernel_rfl) (by kernel_rfl) (by kernel_rfl) (fun _ _ _ h => h) (Or.inl ⟨by rfl, ?_⟩) hHeld ?_
                    rotate_left
                    · rintro w hSw
                      go_simp
                      try with_reducible rfl
                    try simp only [Act.put, List.setIfInBounds_toArray, List.set_cons_zero, List.set_cons_succ]
                    refine wpAnyH_takeD (i := 15) (v := ?_) rfl (by kernel_rfl) (by kernel_rfl) (by kernel_rfl) (fun _ _ _ h => h) (Or.inl ⟨by rfl, ?_⟩) hHeld ?_
                    rotate_left
                    · rintro w hSw
                      go_simp
                      try with_reducible rfl
                    try simp only [Act.put, List.setIfInBounds_toArray, List.set_cons_zero, List.set_cons_succ]
                    refine wpAnyH_one (i := 16) rfl (by kernel_rfl) (fun K hK => ?_)
                    go_simp
                    refine hK.out _ _ (by first | exact hHeld | exact (World.cell?_alloc_lt _ _ _ (World.block_lt_of_cell? _ _ hHeld)).trans hHeld | exact (b5.cell (p := ⟨B, k, none⟩) (World.block_lt_of_cell? _ _ hHeld)).trans hHeld | exact (b4.cell (p := ⟨B, k, none⟩) (World.block_lt_of_cell? _ _ hHeld)).trans hHeld | exact kept_three _ (by omega) hHeld) (fun hHeld => ?_)
                    clear hK K
                    try simp only [Act.put, List.setIfInBounds_toArray, List.set_cons_zero, List.set_cons_succ]
                    refine wpAnyH_one (i := 17) rfl (by kernel_rfl) (fun K hK => ?_)
                    go_simp
                    refine hK.out _ _ (by first | exact hHeld | exact (World.cell?_alloc_lt _ _ _ (World.block_lt_of_cell? _ _ hHeld)).trans hHeld | exact (b5.cell (p := ⟨B, k, none⟩) (World.block_lt_of_cell? _ _ hHeld)).trans hHeld | exact (b4.cell (p := ⟨B, k, none⟩) (World.block_lt_of_cell? _ _ hHeld)).trans hHeld | exact kept_three _ (by omega) hHeld) (fun hHeld => ?_)
                    clear hK K
                    try simp only [Act.put, List.setIfInBounds_toArray, List.set_cons_zero, List.set_cons_succ]
                    refine wpAnyH_takeD (i := 18) (v := ?_) rfl (by kernel_rfl) (by kernel_rfl) (by kernel_rfl) (fun _ _ _ h => h) (Or.inl ⟨by rfl, ?_⟩) hHeld ?_
                    rotate_left
                    · rintro w hSw
                      go_simp
                      try with_reducible rfl
                    try simp only [Act.put, List.setIfInBounds_toArray, List.set_cons_zero, List.set_cons_succ]
                    refine wpAnyH_done (by kernel_rfl) ?_ _
                    refine NoPanic.normal ?_
                    go_wp2_with fail
                    go_meet
                    case rel => exact ⟨rfl, HR.out _ (fin_alloc (mid_one b4 b5))⟩
                  · go_simp
                    refine hK.out _ _ (by first | exact hHeld | exact (World.cell?_alloc_lt _ _ _ (World.block_lt_of_cell? _ _ hHeld)).trans hHeld | exact (b5.cell (p := ⟨B, k, none⟩) (World.block_lt_of_cell? _ _ hHeld)).trans hHeld | exact (b4.cell (p := ⟨B, k, none⟩) (World.block_lt_of_cell? _ _ hHeld)).trans hHeld | exact kept_three _ (by omega) hHeld) (fun hHeld => ?_)
                    clear hK K
                    try simp only [Act.put, List.setIfInBounds_toArray, List.set_cons_zero, List.set_cons_succ]
                    refine wpAnyH_one (i := 12) rfl (by kernel_rfl) (fun K hK => ?_)
                    go_simp
                    refine (decE (T ++ CB) _ E hdec.out _).mono ?_
                    rintro e w5 ⟨rfl, b5⟩
                    obtain ⟨c0, c1, c2, f0, f1, f2⟩ := z_late b5
                    refine hK.out _ _ (by first | exact hHeld | exact (World.cell?_alloc_lt _ _ _ (World.block_lt_of_cell? _ _ hHeld)).trans hHeld | exact (b5.cell (p := ⟨B, k, none⟩) (World.block_lt_of_cell? _ _ hHeld)).trans hHeld | exact (b4.cell (p := ⟨B, k, none⟩) (World.block_lt_of_cell? _ _ hHeld)).trans hHeld | exact kept_three _ (by omega) hHeld) (fun hHeld => ?_)
                    clear hK K
                    try simp only [Act.put, List.setIfInBounds_toArray, List.set_cons_zero, List.set_cons_succ]
                    refine wpAnyH_takeD (i := 13) (v := ?_) rfl (by kernel_rfl) (by kernel_rfl) (by kernel_rfl) (fun _ _ _ h => h) (Or.inl ⟨by rfl, ?_⟩) hHeld ?_
                    rotate_left
                    · rintro w hSw
                      go_simp
                      try with_reducible rfl
                    try simp only [Act.put, List.setIfInBounds_toArray, List.set_cons_zero, List.set_cons_succ]
                    refine wpAnyH_takeD (i := 14) (v := ?_) rfl (by kernel_rfl) (by kernel_rfl) (by kernel_rfl) (fun _ _ _ h => h) (Or.inl ⟨by rfl, ?_⟩) hHeld ?_
                    rotate_left
                    · rintro w hSw
                      go_simp
                      try with_reducible rfl
                    try simp only [Act.put, List.setIfInBounds_toArray, List.set_cons_zero, List.set_cons_succ]
                    refine wpAnyH_takeD (i := 15) (v := ?_) rfl (by kernel_rfl) (by kernel_rfl) (by kernel_rfl) (fun _ _ _ h => h) (Or.inl ⟨by rfl, ?_⟩) hHeld ?_
                    rotate_left
                    · rintro w hSw
                      go_simp
                      try with_reducible rfl
                    try simp only [Act.put, List.setIfInBounds_toArray, List.set_cons_zero, List.set_cons_succ]
                    refine wpAnyH_one (i := 17) rfl (by kernel_rfl) (fun K hK => ?_)
                    go_simp
                    refine hK.out _ _ (by first | exact hHeld | exact (World.cell?_alloc_lt _ _ _ (World.block_lt_of_cell? _ _ hHeld)).trans hHeld | exact (b5.cell (p := ⟨B, k, none⟩) (World.block_lt_of_cell? _ _ hHeld)).trans hHeld | exact (b4.cell (p := ⟨B, k, none⟩) (World.block_lt_of_cell? _ _ hHeld)).trans hHeld | exact kept_three _ (by omega) hHeld) (fun hHeld => ?_)
                    clear hK K
                    try simp only [Act.put, List.setIfInBounds_toArray, List.set_cons_zero, List.set_cons_succ]
                    refine wpAnyH_takeD (i := 18) (v := ?_) rfl (by kernel_rfl) (by kernel_rfl) (by kernel_rfl) (fun _ _ _ h => h) (Or.inl ⟨by rfl, ?_⟩) hHeld ?_
                    rotate_left
                    · rintro w hSw
                      go_simp
                      try with_reducible rfl
                    try simp only [Act.put, List.setIfInBounds_toArray, List.set_cons_zero, List.set_cons_succ]
                    refine wpAnyH_done (by kernel_rfl) ?_ _
                    refine NoPanic.normal ?_
                    go_wp2_with fail
                    go_meet
                    case rel => exact ⟨rfl, HR.out _ (fin_set (mid_two b4 b5) _ (Nat.le_succ_of_le hs4) _ _ _)⟩
                · go_simp
                  refine hK.out _ _ (by first | exact hHeld | exact (World.cell?_alloc_lt _ _ _ (World.block_lt_of_cell? _ _ hHeld)).trans hHeld | exact (b5.cell (p := ⟨B, k, none⟩) (World.block_lt_of_cell? _ _ hHeld)).trans hHeld | exact (b4.cell (p := ⟨B, k, none⟩) (World.block_lt_of_cell? _ _ hHeld)).trans hHeld | exact kept_three _ (by omega) hHeld) (fun hHeld => ?_)
                  clear hK K
                  try simp only [Act.put, List.setIfInBounds_toArray, List.set_cons_zero, List.set_cons_succ]
                  refine wpAnyH_one (i := 10) rfl (by kernel_rfl) (fun K hK => ?_)
                  go_simp
                  refine hK.out _ _ (by first | exact hHeld | exact (World.cell?_alloc_lt _ _ _ (World.block_lt_of_cell? _ _ hHeld)).trans hHeld | exact (b5.cell (p := ⟨B, k, none⟩) (World.block_lt_of_cell? _ _ hHeld)).trans hHeld | exact (b4.cell (p := ⟨B, k, none⟩) (World.block_lt_of_cell? _ _ hHeld)).trans hHeld | exact kept_three _ (by omega) hHeld) (fun hHeld => ?_)
                  clear hK K
                  try simp only [Act.put, List.setIfInBounds_toArray, List.set_cons_zero, List.set_cons_succ]
                  refine wpAnyH_takeD (i := 11) (v := ?_) rfl (by kernel_rfl) (by kernel_rfl) (by kernel_rfl) (fun _ _ _ h => h) (Or.inl ⟨by rfl, ?_⟩) hHeld ?_
                  rotate_left
                  · rintro w hSw
                    go_simp
                    try with_reducible rfl
                  try simp only [Act.put, List.setIfInBounds_toArray, List.set_cons_zero, List.set_cons_succ]
                  refine wpAnyH_one (i := 12) rfl (by kernel_rfl) (fun K hK => ?_)
                  go_simp
                  refine (decE (T ++ CB) _ E hdec.out _).mono ?_
                  rintro e w5 ⟨rfl, b5⟩
                  obtain ⟨c0, c1, c2, f0, f1, f2⟩ := z_late b5
                  refine hK.out _ _ (by first | exact hHeld | exact (World.cell?_alloc_lt _ _ _ (World.block_lt_of_cell? _ _ hHeld)).trans hHeld | exact (b5.cell (p := ⟨B, k, none⟩) (World.block_lt_of_cell? _ _ hHeld)).trans hHeld | exact (b4.cell (p := ⟨B, k, none⟩) (World.block_lt_of_cell? _ _ hHeld)).trans hHeld | exact kept_three _ (by omega) hHeld) (fun hHeld => ?_)
                  clear hK K
                  try simp only [Act.put, List.setIfInBounds_toArray, List.set_cons_zero, List.set_cons_succ]
                  refine wpAnyH_takeD (i := 13) (v := ?_) rfl (by kernel_rfl) (by kernel_rfl) (by kernel_rfl) (fun _ _ _ h => h) (Or.inl ⟨by rfl, ?_⟩) hHeld ?_
                  rotate_left
                  · rintro w hSw
                    go_simp
                    try with_reducible rfl
                  try simp only [Act.put, List.setIfInBounds_toArray, List.set_cons_zero, List.set_cons_succ]
                  refine wpAnyH_takeD (i := 14) (v := ?_) rfl (by kernel_rfl) (by kernel_rfl) (by kernel_rfl) (fun _ _ _ h => h) (Or.inl ⟨by rfl, ?_⟩) hHeld ?_
                  rotate_left
                  · rintro w hSw
                    go_simp
                    try with_reducible rfl
                  try simp only [Act.put, List.setIfInBounds_toArray, List.set_cons_zero, List.set_cons_succ]
                  refine wpAnyH_takeD (i := 15) (v := ?_) rfl (by kernel_rfl) (by kernel_rfl) (by kernel_rfl) (fun _ _ _ h => h) (Or.inl ⟨by rfl, ?_⟩) hHeld ?_
                  rotate_left
                  · rintro w hSw
                    go_simp
                    try with_reducible rfl
                  try simp only [Act.put, List.setIfInBounds_toArray, List.set_cons_zero, List.set_cons_succ]
                  refine wpAnyH_one (i := 17) rfl (by kernel_rfl) (fun K hK => ?_)
                  go_simp
                  refine hK.out _ _ (by first | exact hHeld | exact (World.cell?_alloc_lt _ _ _ (World.block_lt_of_cell? _ _ hHeld)).trans hHeld | exact (b5.cell (p := ⟨B, k, none⟩) (World.block_lt_of_cell? _ _ hHeld)).trans hHeld | exact (b4.cell (p := ⟨B, k, none⟩) (World.block_lt_of_cell? _ _ hHeld)).trans hHeld | exact kept_three _ (by omega) hHeld) (fun hHeld => ?_)
                  clear hK K
                  try simp only [Act.put, List.setIfInBounds_toArray, List.set_cons_zero, List.set_cons_succ]
                  refine wpAnyH_takeD (i := 18) (v := ?_) rfl (by kernel_rfl) (by kernel_rfl) (by kernel_rfl) (fun _ _ _ h => h) (Or.inl ⟨by rfl, ?_⟩) hHeld ?_
                  rotate_left
                  · rintro w hSw
                    go_simp
                    try with_reducible rfl
                  try simp only [Act.put, List.setIfInBounds_toArray, List.set_cons_zero, List.set_cons_succ]
                  refine wpAnyH_done (by kernel_rfl) ?_ _
                  refine NoPanic.normal ?_
                  go_wp2_with fail
                  go_meet
                  case rel => exact ⟨rfl, HR.out _ (fin_set (mid_two b4 b5) _ (Nat.le_succ_of_le hs4) _ _ _)⟩
              · go_simp
                refine hK.out _ _ (by first | exact hHeld | exact (World.cell?_alloc_lt _ _ _ (World.block_lt_of_cell? _ _ hHeld)).trans hHeld | exact (b5.cell (p := ⟨B, k, none⟩) (World.block_lt_of_cell? _ _ hHeld)).trans hHeld | exact (b4.cell (p := ⟨B, k, none⟩) (World.block_lt_of_cell? _ _ hHeld)).trans hHeld | exact kept_three _ (by omega) hHeld) (fun hHeld => ?_)
                clear hK K
                try simp only [Act.put, List.setIfInBounds_toArray, List.set_cons_zero, List.set_cons_succ]
                refine wpAnyH_one (i := 9) rfl (by kernel_rfl) (fun K hK => ?_)
                go_simp
                refine hK.out _ _ (by first | exact hHeld | exact (World.cell?_alloc_lt _ _ _ (World.block_lt_of_cell? _ _ hHeld)).trans hHeld | exact (b5.cell (p := ⟨B, k, none⟩) (World.block_lt_of_cell? _ _ hHeld)).trans hHeld | exact (b4.cell (p := ⟨B, k, none⟩) (World.block_lt_of_cell? _ _ hHeld)).trans hHeld | exact kept_three _ (by omega) hHeld) (fun hHeld => ?_)
                clear hK K
                try simp only [Act.put, List.setIfInBounds_toArray, List.set_cons_zero, List.set_cons_succ]
                refine wpAnyH_one (i := 10) rfl (by kernel_rfl) (fun K hK => ?_)
                go_simp
                refine hK.out _ _ (by first | exact hHeld | exact (World.cell?_alloc_lt _ _ _ (World.block_lt_of_cell? _ _ hHeld)).trans hHeld | exact (b5.cell (p := ⟨B, k, none⟩) (World.block_lt_of_cell? _ _ hHeld)).trans hHeld | exact (b4.cell (p := ⟨B, k, none⟩) (World.block_lt_of_cell? _ _ hHeld)).trans hHeld | exact kept_three _ (by omega) hHeld) (fun hHeld => ?_)
                clear hK K
                try simp only [Act.put, List.setIfInBounds_toArray, List.set_cons_zero, List.set_cons_succ]
                refine wpAnyH_takeD (i := 11) (v := ?_) rfl (by kernel_rfl) (by kernel_rfl) (by kernel_rfl) (fun _ _ _ h => h) (Or.inl ⟨by rfl, ?_⟩) hHeld ?_
                rotate_left
                · rintro w hSw
                  go_simp
                  try with_reducible rfl
                try simp only [Act.put, List.setIfInBounds_toArray, List.set_cons_zero, List.set_cons_succ]
                refine wpAnyH_one (i := 12) rfl (by kernel_rfl) (fun K hK => ?_)
                go_simp
                refine (decE (T ++ CB) _ E hdec.out _).mono ?_
                rintro e w5 ⟨rfl, b5⟩
                obtain ⟨c0, c1, c2, f0, f1, f2⟩ := z_early b5
                refine hK.out _ _ (by first | exact hHeld | exact (World.cell?_alloc_lt _ _ _ (World.block_lt_of_cell? _ _ hHeld)).trans hHeld | exact (b5.cell (p := ⟨B, k, none⟩) (World.block_lt_of_cell? _ _ hHeld)).trans hHeld | exact (b4.cell (p := ⟨B, k, none⟩) (World.block_lt_of_cell? _ _ hHeld)).trans hHeld | exact kept_three _ (by omega) hHeld) (fun hHeld => ?_)
                clear hK K
                try simp only [Act.put, List.setIfInBounds_toArray, List.set_cons_zero, List.set_cons_succ]
                refine wpAnyH_takeD (i := 13) (v := ?_) rfl (by kernel_rfl) (by kernel_rfl) (by kernel_rfl) (fun _ _ _ h => h) (Or.inl ⟨by rfl, ?_⟩) hHeld ?_
                rotate_left
                · rintro w hSw
                  go_simp
                  try with_reducible rfl
                try simp only [Act.put, List.setIfInBounds_toArray, List.set_cons_zero, List.set_cons_succ]
                refine wpAnyH_takeD (i := 14) (v := ?_) rfl (by kernel_rfl) (by kernel_rfl) (by kernel_rfl) (fun _ _ _ h => h) (Or.inl ⟨by rfl, ?_⟩) hHeld ?_
                rotate_left
                · rintro w hSw
                  go_simp
                  try with_reducible rfl
                try simp only [Act.put, List.setIfInBounds_toArray, List.set_cons_zero, List.set_cons_succ]
                refine wpAnyH_takeD (i := 15) (v := ?_) rfl (by kernel_rfl) (by kernel_rfl) (by kernel_rfl) (fun _ _ _ h => h) (Or.inl ⟨by rfl, ?_⟩) hHeld ?_
                rotate_left
                · rintro w hSw
                  go_simp
                  try with_reducible rfl
                try simp only [Act.put, List.setIfInBounds_toArray, List.set_cons_zero, List.set_cons_succ]
                refine wpAnyH_one (i := 17) rfl (by kernel_rfl) (fun K hK => ?_)
                go_simp
                refine hK.out _ _ (by first | exact hHeld | exact (World.cell?_alloc_lt _ _ _ (World.block_lt_of_cell? _ _ hHeld)).trans hHeld | exact (b5.cell (p := ⟨B, k, none⟩) (World.block_lt_of_cell? _ _ hHeld)).trans hHeld | exact (b4.cell (p := ⟨B, k, none⟩) (World.block_lt_of_cell? _ _ hHeld)).trans hHeld | exact kept_three _ (by omega) hHeld) (fun hHeld => ?_)
                clear hK K
                try simp only [Act.put, List.setIfInBounds_toArray, List.set_cons_zero, List.set_cons_succ]
                refine wpAnyH_takeD (i := 18) (v := ?_) rfl (by kernel_rfl) (by kernel_rfl) (by kernel_rfl) (fun _ _ _ h => h) (Or.inl ⟨by rfl, ?_⟩) hHeld ?_
                rotate_left
                · rintro w hSw
                  go_simp
                  try with_reducible rfl
                try simp only [Act.put, List.setIfInBounds_toArray, List.set_cons_zero, List.set_cons_succ]
                refine wpAnyH_done (by kernel_rfl) ?_ _
                refine NoPanic.normal ?_
                go_wp2_with fail
                go_meet
                case rel => exact ⟨rfl, HR.out _ (fin_set (mid_two b4 b5) _ hs4 _ _ _)⟩
            · go_simp
              refine hK.out _ _ (by first | exact hHeld | exact (World.cell?_alloc_lt _ _ _ (World.block_lt_of_cell? _ _ hHeld)).trans hHeld | exact (b5.cell (p := ⟨B, k, none⟩) (World.block_lt_of_cell? _ _ hHeld)).trans hHeld | exact (b4.cell (p := ⟨B, k, none⟩) (World.block_lt_of_cell? _ _ hHeld)).trans hHeld | exact kept_three _ (by omega) hHeld) (fun hHeld => ?_)
              clear hK K
              try simp only [Act.put, List.setIfInBounds_toArray, List.set_cons_zero, List.set_cons_succ]
              refine wpAnyH_one (i := 8) rfl (by kernel_rfl) (fun K hK => ?_)
              go_simp
              refine (sumE T c hsum hcl _).mono ?_
              rintro e w4 ⟨rfl, b4⟩
              refine hK.out _ _ (by first | exact hHeld | exact (World.cell?_alloc_lt _ _ _ (World.block_lt_of_cell? _ _ hHeld)).trans hHeld | exact (b5.cell (p := ⟨B, k, none⟩) (World.block_lt_of_cell? _ _ hHeld)).trans hHeld | exact (b4.cell (p := ⟨B, k, none⟩) (World.block_lt_of_cell? _ _ hHeld)).trans hHeld | exact kept_three _ (by omega) hHeld) (fun hHeld => ?_)
              clear hK K
              try simp only [Act.put, List.setIfInBounds_toArray, List.set_cons_zero, List.set_cons_succ]
              refine wpAnyH_one (i := 9) rfl (by kernel_rfl) (fun K hK => ?_)
              go_simp
              refine hK.out _ _ (by first | exact hHeld | exact (World.cell?_alloc_lt _ _ _ (World.block_lt_of_cell? _ _ hHeld)).trans hHeld | exact (b5.cell (p := ⟨B, k, none⟩) (World.block_lt_of_cell? _ _ hHeld)).trans hHeld | exact (b4.cell (p := ⟨B, k, none⟩) (World.block_lt_of_cell? _ _ hHeld)).trans hHeld | exact kept_three _ (by omega) hHeld) (fun hHeld => ?_)
              clear hK K
              try simp only [Act.put, List.setIfInBounds_toArray, List.set_cons_zero, List.set_cons_succ]
              refine wpAnyH_one (i := 10) rfl (by kernel_rfl) (fun K hK => ?_)
              go_simp
              refine hK.out _ _ (by first | exact hHeld | exact (World.cell?_alloc_lt _ _ _ (World.block_lt_of_cell? _ _ hHeld)).trans hHeld | exact (b5.cell (p := ⟨B, k, none⟩) (World.block_lt_of_cell? _ _ hHeld)).trans hHeld | exact (b4.cell (p := ⟨B, k, none⟩) (World.block_lt_of_cell? _ _ hHeld)).trans hHeld | exact kept_three _ (by omega) hHeld) (fun hHeld => ?_)
              clear hK K
              try simp only [Act.put, List.setIfInBounds_toArray, List.set_cons_zero, List.set_cons_succ]
              refine wpAnyH_takeD (i := 11) (v := ?_) rfl (by kernel_rfl) (by kernel_rfl) (by kernel_rfl) (fun _ _ _ h => h) (Or.inl ⟨by rfl, ?_⟩) hHeld ?_
              rotate_left
              · rintro w hSw
                go_simp
                try with_reducible rfl
              try simp only [Act.put, List.setIfInBounds_toArray, List.set_cons_zero, List.set_cons_succ]
              refine wpAnyH_one (i := 12) rfl (by kernel_rfl) (fun K hK => ?_)
              go_simp
              refine (decE (T ++ CB) _ E hdec.out _).mono ?_
              rintro e w5 ⟨rfl, b5⟩
              obtain ⟨c0, c1, c2, f0, f1, f2⟩ := z_pre b4 b5
              refine hK.out _ _ (by first | exact hHeld | exact (World.cell?_alloc_lt _ _ _ (World.block_lt_of_cell? _ _ hHeld)).trans hHeld | exact (b5.cell (p := ⟨B, k, none⟩) (World.block_lt_of_cell? _ _ hHeld)).trans hHeld | exact (b4.cell (p := ⟨B, k, none⟩) (World.block_lt_of_cell? _ _ hHeld)).trans hHeld | exact kept_three _ (by omega) hHeld) (fun hHeld => ?_)
              clear hK K
              try simp only [Act.put, List.setIfInBounds_toArray, List.set_cons_zero, List.set_cons_succ]
              refine wpAnyH_takeD (i := 13) (v := ?_) rfl (by kernel_rfl) (by kernel_rfl) (by kernel_rfl) (fun _ _ _ h => h) (Or.inl ⟨by rfl, ?_⟩) hHeld ?_
              rotate_left
              · rintro w hSw
                go_simp
                try with_reducible rfl
              try simp only [Act.put, List.setIfInBounds_toArray, List.set_cons_zero, List.set_cons_succ]
              refine wpAnyH_takeD (i := 14) (v := ?_) rfl (by kernel_rfl) (by kernel_rfl) (by kernel_rfl) (fun _ _ _ h => h) (Or.inl ⟨by rfl, ?_⟩) hHeld ?_
              rotate_left
              · rintro w hSw
                go_simp
                try with_reducible rfl
              try simp only [Act.put, List.setIfInBounds_toArray, List.set_cons_zero, List.set_cons_succ]
              refine wpAnyH_takeD (i := 15) (v := ?_) rfl (by kernel_rfl) (by kernel_rfl) (by kernel_rfl) (fun _ _ _ h => h) (Or.inl ⟨by rfl, ?_⟩) hHeld ?_
              rotate_left
              · rintro w hSw
                go_simp
                try with_reducible rfl
              try simp only [Act.put, List.setIfInBounds_toArray, List.set_cons_zero, List.set_cons_succ]
              refine wpAnyH_one (i := 17) rfl (by kernel_rfl) (fun K hK => ?_)
              go_simp
              refine hK.out _ _ (by first | exact hHeld | exact (World.cell?_alloc_lt _ _ _ (World.block_lt_of_cell? _ _ hHeld)).trans hHeld | exact (b5.cell (p := ⟨B, k, none⟩) (World.block_lt_of_cell? _ _ hHeld)).trans hHeld | exact (b4.cell (p := ⟨B, k, none⟩) (World.block_lt_of_cell? _ _ hHeld)).trans hHeld | exact kept_three _ (by omega) hHeld) (fun hHeld => ?_)
              clear hK K
              try simp only [Act.put, List.setIfInBounds_toArray, List.set_cons_zero, List.set_cons_succ]
              refine wpAnyH_takeD (i := 18) (v := ?_) rfl (by kernel_rfl) (by kernel_rfl) (by kernel_rfl) (fun _ _ _ h => h) (Or.inl ⟨by rfl, ?_⟩) hHeld ?_
              rotate_left
              · rintro w hSw
                go_simp
                try with_reducible rfl
              try simp only [Act.put, List.setIfInBounds_toArray, List.set_cons_zero, List.set_cons_succ]
              refine wpAnyH_done (by kernel_rfl) ?_ _
              refine NoPanic.normal ?_
              go_wp2_with fail
              go_meet
              case rel => exact ⟨rfl, HR.out _ (fin_set (mid_pre b4 b5) _ (Nat.le_refl _) _ _ _)⟩
          case rest =>
            obtain ⟨rfl, X2, Y2, b2⟩ := hcut
            have hy := HCW.out wc Y2.out
            clear X Y bel k1 k2 k3 hc0 hc1
            go_wp2_with fail
            exact ⟨⟨k + 1, by omega, by go_num, X2, Y2, b2⟩, by simp [intOf]; omega⟩
        · clear c0 c1 c2
          go_wp2_with fail
          refine (decE ⟨#[]⟩ _ 4 rfl _).mono ?_
          rintro e wc ⟨rfl, qc⟩
          have bc : Hid (Below w.heap.size w wc) := Lib.hid (bel.out.trans (qc.mono bel.out.size))
          clear qc bel X Y
          have hcat : S.size + 1 = 9 := by omega
          go_wp2_with fail
          refine (decE Sx _ 4 hdx.out _).mono ?_
          rintro e wd ⟨rfl, qd⟩
          have bd : Hid (Below w.heap.size w wd) := Lib.hid ((bc.out.alloc bc.out.size _).trans (qd.mono (bc.out.alloc bc.out.size _).size))
          clear qd bc
          go_wp2_with fail
          refine (works18 _).mono ?_
          rintro e we ⟨rfl, qe⟩
          have be : Hid (Below w.heap.size w we) := Lib.hid ((bd.out.alloc bd.out.size _).trans (qe.mono (bd.out.alloc bd.out.size _).size))
          clear qe bd
          go_wp2_with fail
          refine (chkE (-1) 1 0 9 (by decide) _).mono ?_
          rintro e w7 ⟨rfl, q7⟩
          go_wp2_with fail
          refine (chkE 0 1 (-5001) 2 (by decide) _).mono ?_
          rintro e w8 ⟨rfl, q8⟩
          go_wp2_with fail
          go_returns
          exact ⟨rfl, be.out.trans ((bthen q7 q8).mono be.out.size)⟩

end Go.Proofs.Ytljdkaajlmcpkaa
