/-
  modcod: the rows of all modes, by contract. (Printed by mkmod.py.)
-/
import Derived.Test.YtdipbdoekmcgbaaBase
import Derived.Test.YtdipbdoekmcgbaaWrote
import Derived.Laws.Rows
import Derived.Laws.Tables
namespace Go.Proofs.Ytdipbdoekmcgbaa
open Go.RowKit

theorem wp_name {P : Program} {c : Code} {Q : Exit → Act → World → Prop} {a : Act} {w : World} (h : ∀ y, y = w → Code.wp P c Q a y) : Code.wp P c Q a w := h w rfl
def chainW (w : World) (l : List (List Value × TypeId)) : World := l.foldl (fun w x => w.alloc (.cells x.1.toArray x.2)) w
theorem chainW_size : ∀ (l : List (List Value × TypeId)) (w : World), (chainW w l).heap.size = w.heap.size + l.length
  | [], w => rfl
  | x :: l, w => by
    show (chainW (w.alloc _) l).heap.size = _
    rw [chainW_size l, List.length_cons]; simp; omega
theorem chainW_below : ∀ (l : List (List Value × TypeId)) {w0 w : World}, Below w0.heap.size w0 w → Below w0.heap.size w0 (chainW w l)
  | [], _, _, h => h
  | _ :: l, _, _, h => chainW_below l (h.alloc h.size _)
theorem chainW_kept {b : Nat} {cs : List Value} {T : TypeId} : ∀ (l : List (List Value × TypeId)) {w : World}, Blk w b cs T → Blk (chainW w l) b cs T
  | [], _, h => h
  | _ :: l, _, h => chainW_kept l (h.alloc _)
theorem chainW_blk : ∀ (l : List (List Value × TypeId)) (w : World) (i : Nat) (cs : List Value) (T : TypeId), l[i]? = some (cs, T) → Blk (chainW w l) (w.heap.size + i) cs T
  | [], _, i, _, _, h => by simp at h
  | x :: l, w, 0, cs, T, h => by
    obtain rfl : x = (cs, T) := by simpa using h
    exact chainW_kept l (Blk.new w cs T)
  | x :: l, w, i + 1, cs, T, h => by
    have := chainW_blk l (w.alloc (.cells x.1.toArray x.2)) i cs T (by simpa using h)
    rw [show (w.alloc (.cells x.1.toArray x.2)).heap.size = w.heap.size + 1 by simp] at this
    rw [show w.heap.size + (i + 1) = w.heap.size + 1 + i by omega]
    exact this

theorem zeroM (w : World) : (zeroValue 74).run Try.prog w = .ok (.agg ((List.replicate 116 (Value.int .i64 0)).toArray)) w := by kernel_rfl

def modLong : List Int := [16008, 21408, 25728, 32208, 38688, 43040, 48408, 51648, 53840, 57472, 58192]
def modShort : List Int := [3072, 5232, 6312, 7032, 9552, 10632, 11712, 12432, 13152, 14232, 0]
def modTab : List Int := [0, 0, 0, 0, 0, 16008, 3072, -235, 0, 21408, 5232, -124, 0, 25728, 6312, -30, 0, 32208, 7032, 100, 0, 38688, 9552, 223, 0, 43040, 10632, 310, 0, 48408, 11712, 403, 0, 51648, 12432, 468, 0, 53840, 13152, 518, 0, 57472, 14232, 620, 0, 58192, 0, 642, 1, 38688, 9552, 550, 1, 43040, 10632, 662, 1, 48408, 11712, 791, 1, 53840, 13152, 935, 1, 57472, 14232, 1069, 1, 58192, 0, 1098, 2, 43040, 10632, 897, 2, 48408, 11712, 1021, 2, 51648, 12432, 1103, 2, 53840, 13152, 1161, 2, 57472, 14232, 1289, 2, 58192, 0, 1313, 3, 48408, 11712, 1273, 3, 51648, 12432, 1364, 3, 53840, 13152, 1428, 3, 57472, 14232, 1569, 3, 58192, 0, 1605]
def modPart (k : Nat) : List Int := modTab.take (4 * k) ++ List.replicate (116 - 4 * k) 0
theorem modStep0 : ∀ j, j < 11 → ((((modPart (1 + j)).set ((1 + j) * 4) 0).set ((1 + j) * 4 + 1) (modLong.getD (([0, 1, 2, 3, 4, 5, 6, 7, 8, 9, 10] : List Nat).getD j 0) 0)).set ((1 + j) * 4 + 2) (modShort.getD (([0, 1, 2, 3, 4, 5, 6, 7, 8, 9, 10] : List Nat).getD j 0) 0)).set ((1 + j) * 4 + 3) (([-235, -124, -30, 100, 223, 310, 403, 468, 518, 620, 642] : List Int).getD j 0) = modPart (1 + (j + 1)) := by decide +kernel
theorem modStep1 : ∀ j, j < 6 → ((((modPart (12 + j)).set ((12 + j) * 4) 1).set ((12 + j) * 4 + 1) (modLong.getD (([4, 5, 6, 8, 9, 10] : List Nat).getD j 0) 0)).set ((12 + j) * 4 + 2) (modShort.getD (([4, 5, 6, 8, 9, 10] : List Nat).getD j 0) 0)).set ((12 + j) * 4 + 3) (([550, 662, 791, 935, 1069, 1098] : List Int).getD j 0) = modPart (12 + (j + 1)) := by decide +kernel
theorem modStep2 : ∀ j, j < 6 → ((((modPart (18 + j)).set ((18 + j) * 4) 2).set ((18 + j) * 4 + 1) (modLong.getD (([5, 6, 7, 8, 9, 10] : List Nat).getD j 0) 0)).set ((18 + j) * 4 + 2) (modShort.getD (([5, 6, 7, 8, 9, 10] : List Nat).getD j 0) 0)).set ((18 + j) * 4 + 3) (([897, 1021, 1103, 1161, 1289, 1313] : List Int).getD j 0) = modPart (18 + (j + 1)) := by decide +kernel
theorem modStep3 : ∀ j, j < 5 → ((((modPart (24 + j)).set ((24 + j) * 4) 3).set ((24 + j) * 4 + 1) (modLong.getD (([6, 7, 8, 9, 10] : List Nat).getD j 0) 0)).set ((24 + j) * 4 + 2) (modShort.getD (([6, 7, 8, 9, 10] : List Nat).getD j 0) 0)).set ((24 + j) * 4 + 3) (([1273, 1364, 1428, 1569, 1605] : List Int).getD j 0) = modPart (24 + (j + 1)) := by decide +kernel
theorem modPart_length {k : Nat} (h : k ≤ 29) : (modPart k).length = 116 := by
  have e : modTab.length = 116 := by decide
  unfold modPart
  rw [List.length_append, List.length_take, List.length_replicate, e]
  omega
theorem Blk.has {w : World} {b : Nat} {cs : List Value} {T : TypeId} (h : Blk w b cs T) (o : Nat) (ho : o < cs.length) : ∃ v, w.cell? ⟨b, o, none⟩ = some v := ⟨_, h.cell o (List.getElem?_eq_getElem ho)⟩
/-- A whole array by value, out of a block that is known whole. -/
theorem wpList_loadRow {ops : Array Oper} {rest : List Oper} {o : Oper} {a : Act} {w : World} {Q : Exit → Act → World → Prop} (hg : o.guard = none) (dst : Option Tmp) (hdst : o.dst = dst) (t : TypeId) (p : Operand) (ho : o.op = .load t p) (b : Nat) (hp : a.eval p = .pointer (some ⟨b, 0, none⟩))
    (cs : Array Value) (n : Nat) (e : TypeId) (hB : w.heap[b]? = some (.cells cs t (0, 0))) (hu : Try.prog.underlying t = some (.array n e)) (hi : (Try.prog.info? t).map (·.size) = some cs.size)
    (h : wpList Try.prog ops Q rest (a.put dst (.agg cs)) w) : wpList Try.prog ops Q (o :: rest) a w := by
  subst hdst
  refine wpList_plain hg fun K hK => ?_
  have hr : (Instr.loadAt t (.pointer (some ⟨b, 0, none⟩))).run Try.prog w = .ok (.agg cs) w := by
    simp only [Instr.loadAt, Instr.sureAddr, Sem.run_bind, Sem.run_pure, Result.andThen]
    exact run_loadVar_row w b t t cs (0, 0) _ hB hu rfl hi
  have hrun : (execOp a.eval o).run Try.prog w = .ok (.value (.agg cs)) w := by
    unfold execOp
    rw [ho]
    simp only [hp, Sem.run_bind, Sem.run_pure, Result.andThen, hr]
  unfold Oper.wp
  rw [hrun, Oper.upon_value]
  exact hK _ _ h
/-- A whole array into such a block. -/
theorem wpList_storeRow {ops : Array Oper} {rest : List Oper} {o : Oper} {a : Act} {w : World} {Q : Exit → Act → World → Prop} (hg : o.guard = none) (dst : Option Tmp) (hdst : o.dst = dst) (t : TypeId) (p x : Operand) (ho : o.op = .store t p x) (b : Nat) (hp : a.eval p = .pointer (some ⟨b, 0, none⟩))
    (cs old : Array Value) (hx : a.eval x = .agg cs) (hB : w.heap[b]? = some (.cells old t (0, 0))) (hi : (Try.prog.info? t).map (·.size) = some cs.size) (hs : old.size = cs.size) (h1 : cs.all (·.oneCell') = true)
    (h : wpList Try.prog ops Q rest (a.put dst undef) (w.setRow b cs)) : wpList Try.prog ops Q (o :: rest) a w := by
  subst hdst
  refine wpList_plain hg fun K hK => ?_
  have hr : (Instr.storeAt t (.pointer (some ⟨b, 0, none⟩)) (.agg cs)).run Try.prog w = .ok () (w.setRow b cs) := by
    simp only [Instr.storeAt, Instr.sureAddr, Sem.run_bind, Sem.run_pure, Result.andThen]
    exact run_storeVar_row w b t t old cs hB hi hs h1
  have hrun : (execOp a.eval o).run Try.prog w = .ok .skip (w.setRow b cs) := by
    unfold execOp
    rw [ho]
    simp only [hp, hx, Sem.run_bind, Sem.run_pure, Result.andThen, hr]
  unfold Oper.wp
  rw [hrun, Oper.upon_skip]
  exact hK _ _ h

def modW (w : World) : World := chainW w [(List.replicate 116 (.int .i64 0), 74), (([16008, 21408, 25728, 32208, 38688, 43040, 48408, 51648, 53840, 57472, 58192] : List Int).map (Value.int .i64), 3), (([3072, 5232, 6312, 7032, 9552, 10632, 11712, 12432, 13152, 14232, 0] : List Int).map (Value.int .i64), 3), (([0, 1, 2, 3, 4, 5, 6, 7, 8, 9, 10] : List Int).map (Value.int .i64), 3), (([4, 5, 6, 8, 9, 10] : List Int).map (Value.int .i64), 3), (([5, 6, 7, 8, 9, 10] : List Int).map (Value.int .i64), 3), (([6, 7, 8, 9, 10] : List Int).map (Value.int .i64), 3), ([.slice (some ⟨w.heap.size + 1 + 1 + 1, 0, none⟩) 11 11, .slice (some ⟨w.heap.size + 1 + 1 + 1 + 1, 0, none⟩) 6 6, .slice (some ⟨w.heap.size + 1 + 1 + 1 + 1 + 1, 0, none⟩) 6 6, .slice (some ⟨w.heap.size + 1 + 1 + 1 + 1 + 1 + 1, 0, none⟩) 5 5], 69), (([-235, -124, -30, 100, 223, 310, 403, 468, 518, 620, 642] : List Int).map (Value.int .i64), 3), (([550, 662, 791, 935, 1069, 1098] : List Int).map (Value.int .i64), 3), (([897, 1021, 1103, 1161, 1289, 1313] : List Int).map (Value.int .i64), 3), (([1273, 1364, 1428, 1569, 1605] : List Int).map (Value.int .i64), 3), ([.slice (some ⟨w.heap.size + 1 + 1 + 1 + 1 + 1 + 1 + 1 + 1, 0, none⟩) 11 11, .slice (some ⟨w.heap.size + 1 + 1 + 1 + 1 + 1 + 1 + 1 + 1 + 1, 0, none⟩) 6 6, .slice (some ⟨w.heap.size + 1 + 1 + 1 + 1 + 1 + 1 + 1 + 1 + 1 + 1, 0, none⟩) 6 6, .slice (some ⟨w.heap.size + 1 + 1 + 1 + 1 + 1 + 1 + 1 + 1 + 1 + 1 + 1, 0, none⟩) 5 5], 69), (List.replicate 116 (.int .i64 0), 74)]
set_option maxRecDepth 100000 in
set_option maxHeartbeats 4000000 in
theorem rows_walk (w : World) : Calls Try.prog 50 #[] w fun e w' => e = .returned (.agg (modTab.map (Value.int .i64)).toArray) ∧ Below w.heap.size w w' := by
  go_enter Try.func50, Try.ntmps50
  obtain ⟨zm, hzm, hz⟩ : ∃ zm, zm = (List.replicate 116 (Value.int .i64 0)).toArray ∧ ∀ w : World, (zeroValue 74).run Try.prog w = .ok (.agg zm) w := ⟨_, rfl, zeroM⟩
  go_wp2_with fail
  refine wp_name ?_
  intro w14 hw14
  have hC : w14 = modW w := hw14
  have B0 : Hid (Blk w14 (w.heap.size) (List.replicate 116 (.int .i64 0)) 74) := Lib.hid (by rw [hC]; exact chainW_blk _ w 0 _ _ rfl)
  have B1 : Hid (Blk w14 (w.heap.size + 1) (([16008, 21408, 25728, 32208, 38688, 43040, 48408, 51648, 53840, 57472, 58192] : List Int).map (Value.int .i64)) 3) := Lib.hid (by rw [hC]; exact chainW_blk _ w 1 _ _ rfl)
  have B2 : Hid (Blk w14 (w.heap.size + 1 + 1) (([3072, 5232, 6312, 7032, 9552, 10632, 11712, 12432, 13152, 14232, 0] : List Int).map (Value.int .i64)) 3) := Lib.hid (by rw [hC]; exact chainW_blk _ w 2 _ _ rfl)
  have B3 : Hid (Blk w14 (w.heap.size + 1 + 1 + 1) (([0, 1, 2, 3, 4, 5, 6, 7, 8, 9, 10] : List Int).map (Value.int .i64)) 3) := Lib.hid (by rw [hC]; exact chainW_blk _ w 3 _ _ rfl)
  have B4 : Hid (Blk w14 (w.heap.size + 1 + 1 + 1 + 1) (([4, 5, 6, 8, 9, 10] : List Int).map (Value.int .i64)) 3) := Lib.hid (by rw [hC]; exact chainW_blk _ w 4 _ _ rfl)
  have B5 : Hid (Blk w14 (w.heap.size + 1 + 1 + 1 + 1 + 1) (([5, 6, 7, 8, 9, 10] : List Int).map (Value.int .i64)) 3) := Lib.hid (by rw [hC]; exact chainW_blk _ w 5 _ _ rfl)
  have B6 : Hid (Blk w14 (w.heap.size + 1 + 1 + 1 + 1 + 1 + 1) (([6, 7, 8, 9, 10] : List Int).map (Value.int .i64)) 3) := Lib.hid (by rw [hC]; exact chainW_blk _ w 6 _ _ rfl)
  have B7 : Hid (Blk w14 (w.heap.size + 1 + 1 + 1 + 1 + 1 + 1 + 1) ([.slice (some ⟨w.heap.size + 1 + 1 + 1, 0, none⟩) 11 11, .slice (some ⟨w.heap.size + 1 + 1 + 1 + 1, 0, none⟩) 6 6, .slice (some ⟨w.heap.size + 1 + 1 + 1 + 1 + 1, 0, none⟩) 6 6, .slice (some ⟨w.heap.size + 1 + 1 + 1 + 1 + 1 + 1, 0, none⟩) 5 5]) 69) := Lib.hid (by rw [hC]; exact chainW_blk _ w 7 _ _ rfl)
  have B8 : Hid (Blk w14 (w.heap.size + 1 + 1 + 1 + 1 + 1 + 1 + 1 + 1) (([-235, -124, -30, 100, 223, 310, 403, 468, 518, 620, 642] : List Int).map (Value.int .i64)) 3) := Lib.hid (by rw [hC]; exact chainW_blk _ w 8 _ _ rfl)
  have B9 : Hid (Blk w14 (w.heap.size + 1 + 1 + 1 + 1 + 1 + 1 + 1 + 1 + 1) (([550, 662, 791, 935, 1069, 1098] : List Int).map (Value.int .i64)) 3) := Lib.hid (by rw [hC]; exact chainW_blk _ w 9 _ _ rfl)
  have B10 : Hid (Blk w14 (w.heap.size + 1 + 1 + 1 + 1 + 1 + 1 + 1 + 1 + 1 + 1) (([897, 1021, 1103, 1161, 1289, 1313] : List Int).map (Value.int .i64)) 3) := Lib.hid (by rw [hC]; exact chainW_blk _ w 10 _ _ rfl)
  have B11 : Hid (Blk w14 (w.heap.size + 1 + 1 + 1 + 1 + 1 + 1 + 1 + 1 + 1 + 1 + 1) (([1273, 1364, 1428, 1569, 1605] : List Int).map (Value.int .i64)) 3) := Lib.hid (by rw [hC]; exact chainW_blk _ w 11 _ _ rfl)
  have B12 : Hid (Blk w14 (w.heap.size + 1 + 1 + 1 + 1 + 1 + 1 + 1 + 1 + 1 + 1 + 1 + 1) ([.slice (some ⟨w.heap.size + 1 + 1 + 1 + 1 + 1 + 1 + 1 + 1, 0, none⟩) 11 11, .slice (some ⟨w.heap.size + 1 + 1 + 1 + 1 + 1 + 1 + 1 + 1 + 1, 0, none⟩) 6 6, .slice (some ⟨w.heap.size + 1 + 1 + 1 + 1 + 1 + 1 + 1 + 1 + 1 + 1, 0, none⟩) 6 6, .slice (some ⟨w.heap.size + 1 + 1 + 1 + 1 + 1 + 1 + 1 + 1 + 1 + 1 + 1, 0, none⟩) 5 5]) 69) := Lib.hid (by rw [hC]; exact chainW_blk _ w 12 _ _ rfl)
  have BO : Hid (Blk w14 (w.heap.size + 1 + 1 + 1 + 1 + 1 + 1 + 1 + 1 + 1 + 1 + 1 + 1 + 1) ((modPart 1).map (Value.int .i64)) 74) := Lib.hid (by rw [hC]; exact chainW_blk _ w 13 _ _ rfl)
  have hbel : Below w.heap.size w w14 := by rw [hC]; exact chainW_below _ (Below.refl _ _)
  clear hw14 hC hz hzm
  go_loopw [6, 25] (fun num i wr => ∃ k n : Int, 0 ≤ k ∧ k ≤ 4 ∧ i = .int .i64 k ∧ num = .int .i64 n ∧ Hid (n = [1, 12, 18, 24, 29].getD k.toNat 0) ∧ Hid (Wrote (fun k => k = w.heap.size + 1 + 1 + 1 + 1 + 1 + 1 + 1 + 1 + 1 + 1 + 1 + 1 + 1) w14 wr) ∧ Hid (Blk wr (w.heap.size + 1 + 1 + 1 + 1 + 1 + 1 + 1 + 1 + 1 + 1 + 1 + 1 + 1) ((modPart n.toNat).map (Value.int .i64)) 74)) (fun _ i _ => 4 - (intOf i).toNat)
  case atStart => exact ⟨0, 1, by omega, by omega, rfl, rfl, Lib.hid rfl, Lib.hid (Wrote.refl _ _), BO⟩
  case round =>
    obtain ⟨k, n, hk0, hk, rfl, rfl, hn, W, P⟩ := hrel
    clear BO
    by_cases hk4 : k < 4
    · rcases (by omega : k = 0 ∨ k = 1 ∨ k = 2 ∨ k = 3) with rfl | rfl | rfl | rfl
      · obtain rfl : n = 1 := hn.out
        have c0 := W.out.cell (B7.out.cell 0 rfl) (by omega)
        have c1 := W.out.cell (B12.out.cell 0 rfl) (by omega)
        go_wp2_with fail
        go_loopw [6, 32] (fun num i wr => ∃ j : Nat, j ≤ 11 ∧ i = .int .i64 j ∧ num = .int .i64 (1 + j) ∧ Hid (Wrote (fun k => k = w.heap.size + 1 + 1 + 1 + 1 + 1 + 1 + 1 + 1 + 1 + 1 + 1 + 1 + 1) w14 wr) ∧ Hid (Blk wr (w.heap.size + 1 + 1 + 1 + 1 + 1 + 1 + 1 + 1 + 1 + 1 + 1 + 1 + 1) ((modPart (1 + j)).map (Value.int .i64)) 74)) (fun _ i _ => 11 - (intOf i).toNat)
        case atStart => exact ⟨0, by omega, rfl, rfl, W, P⟩
        case round =>
          clear W P
          obtain ⟨j, hj, rfl, rfl, W, P⟩ := hrel
          by_cases hj2 : j < 11
          · obtain ⟨x, hx⟩ : ∃ x : Nat, ([0, 1, 2, 3, 4, 5, 6, 7, 8, 9, 10] : List Nat).getD j 0 = x := ⟨_, rfl⟩
            have hx2 : x < 11 := by rw [← hx]; exact (by decide : ∀ j < 11, ([0, 1, 2, 3, 4, 5, 6, 7, 8, 9, 10] : List Nat).getD j 0 < 11) j hj2
            have d0 := W.out.cell (B3.out.cell (v := .int .i64 (x : Int)) j (by rw [List.getElem?_map, ← hx, (by decide : ∀ j < 11, ([0, 1, 2, 3, 4, 5, 6, 7, 8, 9, 10] : List Int)[j]? = some (((([0, 1, 2, 3, 4, 5, 6, 7, 8, 9, 10] : List Nat).getD j 0 : Nat) : Int))) j hj2]; rfl)) (by omega)
            have d1 := W.out.cell (B1.out.cell (v := .int .i64 (modLong.getD x 0)) x (by rw [List.getElem?_map, (by decide : ∀ j < 11, ([16008, 21408, 25728, 32208, 38688, 43040, 48408, 51648, 53840, 57472, 58192] : List Int)[j]? = some (modLong.getD j 0)) x hx2]; rfl)) (by omega)
            have d2 := W.out.cell (B2.out.cell (v := .int .i64 (modShort.getD x 0)) x (by rw [List.getElem?_map, (by decide : ∀ j < 11, ([3072, 5232, 6312, 7032, 9552, 10632, 11712, 12432, 13152, 14232, 0] : List Int)[j]? = some (modShort.getD j 0)) x hx2]; rfl)) (by omega)
            have d3 := W.out.cell (B8.out.cell (v := .int .i64 (([-235, -124, -30, 100, 223, 310, 403, 468, 518, 620, 642] : List Int).getD j 0)) j (by rw [List.getElem?_map, (by decide : ∀ j < 11, ([-235, -124, -30, 100, 223, 310, 403, 468, 518, 620, 642] : List Int)[j]? = some (([-235, -124, -30, 100, 223, 310, 403, 468, 518, 620, 642] : List Int).getD j 0)) j hj2]; rfl)) (by omega)
            have HX := Lib.hid hx
            clear hx
            obtain ⟨y1, hy1⟩ : ∃ y, modLong.getD x 0 = y := ⟨_, rfl⟩
            obtain ⟨y2, hy2⟩ : ∃ y, modShort.getD x 0 = y := ⟨_, rfl⟩
            obtain ⟨y3, hy3⟩ : ∃ y, ([-235, -124, -30, 100, 223, 310, 403, 468, 518, 620, 642] : List Int).getD j 0 = y := ⟨_, rfl⟩
            rw [hy1] at d1
            rw [hy2] at d2
            rw [hy3] at d3
            have Y1 := Lib.hid hy1
            have Y2 := Lib.hid hy2
            have Y3 := Lib.hid hy3
            clear hy1 hy2 hy3
            have hc1 := W.out.cell (B12.out.cell 0 rfl) (by omega)
            obtain ⟨v0, e0⟩ := P.out.has ((1 + j) * 4) (by rw [List.length_map, modPart_length (by omega)]; omega)
            obtain ⟨v1, e1⟩ := P.out.has ((1 + j) * 4 + 1) (by rw [List.length_map, modPart_length (by omega)]; omega)
            obtain ⟨v2, e2⟩ := P.out.has ((1 + j) * 4 + 2) (by rw [List.length_map, modPart_length (by omega)]; omega)
            obtain ⟨v3, e3⟩ := P.out.has ((1 + j) * 4 + 3) (by rw [List.length_map, modPart_length (by omega)]; omega)
            have F := fun o => P.out.free o
            go_wp2_with fail
            go_region
            go_wp2_with fail
            refine ⟨⟨j + 1, by omega, by go_num, by go_num, Lib.hid (((((W.out.trans (Wrote.set _ _ _ _ _ rfl)).trans (Wrote.set _ _ _ _ _ rfl)).trans (Wrote.set _ _ _ _ _ rfl)).trans (Wrote.set _ _ _ _ _ rfl)).drew), Lib.hid ?_⟩, by simp [intOf]; omega⟩
            have hh := ((((P.out.set ((1 + j) * 4) (.int .i64 0)).set ((1 + j) * 4 + 1) (.int .i64 y1)).set ((1 + j) * 4 + 2) (.int .i64 y2)).set ((1 + j) * 4 + 3) (.int .i64 y3)).drew
            have hst := modStep0 j hj2
            rw [HX.out, Y1.out, Y2.out, Y3.out] at hst
            rw [← List.map_set, ← List.map_set, ← List.map_set, ← List.map_set, hst] at hh
            exact hh
          · obtain rfl : j = 11 := by omega
            go_wp2_with fail
            exact ⟨⟨1, 12, by omega, by omega, rfl, rfl, Lib.hid rfl, W, P⟩, by simp [intOf]⟩
      · obtain rfl : n = 12 := hn.out
        have c0 := W.out.cell (B7.out.cell 1 rfl) (by omega)
        have c1 := W.out.cell (B12.out.cell 1 rfl) (by omega)
        go_wp2_with fail
        go_loopw [6, 32] (fun num i wr => ∃ j : Nat, j ≤ 6 ∧ i = .int .i64 j ∧ num = .int .i64 (12 + j) ∧ Hid (Wrote (fun k => k = w.heap.size + 1 + 1 + 1 + 1 + 1 + 1 + 1 + 1 + 1 + 1 + 1 + 1 + 1) w14 wr) ∧ Hid (Blk wr (w.heap.size + 1 + 1 + 1 + 1 + 1 + 1 + 1 + 1 + 1 + 1 + 1 + 1 + 1) ((modPart (12 + j)).map (Value.int .i64)) 74)) (fun _ i _ => 6 - (intOf i).toNat)
        case atStart => exact ⟨0, by omega, rfl, rfl, W, P⟩
        case round =>
          clear W P
          obtain ⟨j, hj, rfl, rfl, W, P⟩ := hrel
          by_cases hj2 : j < 6
          · obtain ⟨x, hx⟩ : ∃ x : Nat, ([4, 5, 6, 8, 9, 10] : List Nat).getD j 0 = x := ⟨_, rfl⟩
            have hx2 : x < 11 := by rw [← hx]; exact (by decide : ∀ j < 6, ([4, 5, 6, 8, 9, 10] : List Nat).getD j 0 < 11) j hj2
            have d0 := W.out.cell (B4.out.cell (v := .int .i64 (x : Int)) j (by rw [List.getElem?_map, ← hx, (by decide : ∀ j < 6, ([4, 5, 6, 8, 9, 10] : List Int)[j]? = some (((([4, 5, 6, 8, 9, 10] : List Nat).getD j 0 : Nat) : Int))) j hj2]; rfl)) (by omega)
            have d1 := W.out.cell (B1.out.cell (v := .int .i64 (modLong.getD x 0)) x (by rw [List.getElem?_map, (by decide : ∀ j < 11, ([16008, 21408, 25728, 32208, 38688, 43040, 48408, 51648, 53840, 57472, 58192] : List Int)[j]? = some (modLong.getD j 0)) x hx2]; rfl)) (by omega)
            have d2 := W.out.cell (B2.out.cell (v := .int .i64 (modShort.getD x 0)) x (by rw [List.getElem?_map, (by decide : ∀ j < 11, ([3072, 5232, 6312, 7032, 9552, 10632, 11712, 12432, 13152, 14232, 0] : List Int)[j]? = some (modShort.getD j 0)) x hx2]; rfl)) (by omega)
            have d3 := W.out.cell (B9.out.cell (v := .int .i64 (([550, 662, 791, 935, 1069, 1098] : List Int).getD j 0)) j (by rw [List.getElem?_map, (by decide : ∀ j < 6, ([550, 662, 791, 935, 1069, 1098] : List Int)[j]? = some (([550, 662, 791, 935, 1069, 1098] : List Int).getD j 0)) j hj2]; rfl)) (by omega)
            have HX := Lib.hid hx
            clear hx
            obtain ⟨y1, hy1⟩ : ∃ y, modLong.getD x 0 = y := ⟨_, rfl⟩
            obtain ⟨y2, hy2⟩ : ∃ y, modShort.getD x 0 = y := ⟨_, rfl⟩
            obtain ⟨y3, hy3⟩ : ∃ y, ([550, 662, 791, 935, 1069, 1098] : List Int).getD j 0 = y := ⟨_, rfl⟩
            rw [hy1] at d1
            rw [hy2] at d2
            rw [hy3] at d3
            have Y1 := Lib.hid hy1
            have Y2 := Lib.hid hy2
            have Y3 := Lib.hid hy3
            clear hy1 hy2 hy3
            have hc1 := W.out.cell (B12.out.cell 1 rfl) (by omega)
            obtain ⟨v0, e0⟩ := P.out.has ((12 + j) * 4) (by rw [List.length_map, modPart_length (by omega)]; omega)
            obtain ⟨v1, e1⟩ := P.out.has ((12 + j) * 4 + 1) (by rw [List.length_map, modPart_length (by omega)]; omega)
            obtain ⟨v2, e2⟩ := P.out.has ((12 + j) * 4 + 2) (by rw [List.length_map, modPart_length (by omega)]; omega)
            obtain ⟨v3, e3⟩ := P.out.has ((12 + j) * 4 + 3) (by rw [List.length_map, modPart_length (by omega)]; omega)
            have F := fun o => P.out.free o
            go_wp2_with fail
            go_region
            go_wp2_with fail
            refine ⟨⟨j + 1, by omega, by go_num, by go_num, Lib.hid (((((W.out.trans (Wrote.set _ _ _ _ _ rfl)).trans (Wrote.set _ _ _ _ _ rfl)).trans (Wrote.set _ _ _ _ _ rfl)).trans (Wrote.set _ _ _ _ _ rfl)).drew), Lib.hid ?_⟩, by simp [intOf]; omega⟩
            have hh := ((((P.out.set ((12 + j) * 4) (.int .i64 1)).set ((12 + j) * 4 + 1) (.int .i64 y1)).set ((12 + j) * 4 + 2) (.int .i64 y2)).set ((12 + j) * 4 + 3) (.int .i64 y3)).drew
            have hst := modStep1 j hj2
            rw [HX.out, Y1.out, Y2.out, Y3.out] at hst
            rw [← List.map_set, ← List.map_set, ← List.map_set, ← List.map_set, hst] at hh
            exact hh
          · obtain rfl : j = 6 := by omega
            go_wp2_with fail
            exact ⟨⟨2, 18, by omega, by omega, rfl, rfl, Lib.hid rfl, W, P⟩, by simp [intOf]⟩
      · obtain rfl : n = 18 := hn.out
        have c0 := W.out.cell (B7.out.cell 2 rfl) (by omega)
        have c1 := W.out.cell (B12.out.cell 2 rfl) (by omega)
        go_wp2_with fail
        go_loopw [6, 32] (fun num i wr => ∃ j : Nat, j ≤ 6 ∧ i = .int .i64 j ∧ num = .int .i64 (18 + j) ∧ Hid (Wrote (fun k => k = w.heap.size + 1 + 1 + 1 + 1 + 1 + 1 + 1 + 1 + 1 + 1 + 1 + 1 + 1) w14 wr) ∧ Hid (Blk wr (w.heap.size + 1 + 1 + 1 + 1 + 1 + 1 + 1 + 1 + 1 + 1 + 1 + 1 + 1) ((modPart (18 + j)).map (Value.int .i64)) 74)) (fun _ i _ => 6 - (intOf i).toNat)
        case atStart => exact ⟨0, by omega, rfl, rfl, W, P⟩
        case round =>
          clear W P
          obtain ⟨j, hj, rfl, rfl, W, P⟩ := hrel
          by_cases hj2 : j < 6
          · obtain ⟨x, hx⟩ : ∃ x : Nat, ([5, 6, 7, 8, 9, 10] : List Nat).getD j 0 = x := ⟨_, rfl⟩
            have hx2 : x < 11 := by rw [← hx]; exact (by decide : ∀ j < 6, ([5, 6, 7, 8, 9, 10] : List Nat).getD j 0 < 11) j hj2
            have d0 := W.out.cell (B5.out.cell (v := .int .i64 (x : Int)) j (by rw [List.getElem?_map, ← hx, (by decide : ∀ j < 6, ([5, 6, 7, 8, 9, 10] : List Int)[j]? = some (((([5, 6, 7, 8, 9, 10] : List Nat).getD j 0 : Nat) : Int))) j hj2]; rfl)) (by omega)
            have d1 := W.out.cell (B1.out.cell (v := .int .i64 (modLong.getD x 0)) x (by rw [List.getElem?_map, (by decide : ∀ j < 11, ([16008, 21408, 25728, 32208, 38688, 43040, 48408, 51648, 53840, 57472, 58192] : List Int)[j]? = some (modLong.getD j 0)) x hx2]; rfl)) (by omega)
            have d2 := W.out.cell (B2.out.cell (v := .int .i64 (modShort.getD x 0)) x (by rw [List.getElem?_map, (by decide : ∀ j < 11, ([3072, 5232, 6312, 7032, 9552, 10632, 11712, 12432, 13152, 14232, 0] : List Int)[j]? = some (modShort.getD j 0)) x hx2]; rfl)) (by omega)
            have d3 := W.out.cell (B10.out.cell (v := .int .i64 (([897, 1021, 1103, 1161, 1289, 1313] : List Int).getD j 0)) j (by rw [List.getElem?_map, (by decide : ∀ j < 6, ([897, 1021, 1103, 1161, 1289, 1313] : List Int)[j]? = some (([897, 1021, 1103, 1161, 1289, 1313] : List Int).getD j 0)) j hj2]; rfl)) (by omega)
            have HX := Lib.hid hx
            clear hx
            obtain ⟨y1, hy1⟩ : ∃ y, modLong.getD x 0 = y := ⟨_, rfl⟩
            obtain ⟨y2, hy2⟩ : ∃ y, modShort.getD x 0 = y := ⟨_, rfl⟩
            obtain ⟨y3, hy3⟩ : ∃ y, ([897, 1021, 1103, 1161, 1289, 1313] : List Int).getD j 0 = y := ⟨_, rfl⟩
            rw [hy1] at d1
            rw [hy2] at d2
            rw [hy3] at d3
            have Y1 := Lib.hid hy1
            have Y2 := Lib.hid hy2
            have Y3 := Lib.hid hy3
            clear hy1 hy2 hy3
            have hc1 := W.out.cell (B12.out.cell 2 rfl) (by omega)
            obtain ⟨v0, e0⟩ := P.out.has ((18 + j) * 4) (by rw [List.length_map, modPart_length (by omega)]; omega)
            obtain ⟨v1, e1⟩ := P.out.has ((18 + j) * 4 + 1) (by rw [List.length_map, modPart_length (by omega)]; omega)
            obtain ⟨v2, e2⟩ := P.out.has ((18 + j) * 4 + 2) (by rw [List.length_map, modPart_length (by omega)]; omega)
            obtain ⟨v3, e3⟩ := P.out.has ((18 + j) * 4 + 3) (by rw [List.length_map, modPart_length (by omega)]; omega)
            have F := fun o => P.out.free o
            go_wp2_with fail
            go_region
            go_wp2_with fail
            refine ⟨⟨j + 1, by omega, by go_num, by go_num, Lib.hid (((((W.out.trans (Wrote.set _ _ _ _ _ rfl)).trans (Wrote.set _ _ _ _ _ rfl)).trans (Wrote.set _ _ _ _ _ rfl)).trans (Wrote.set _ _ _ _ _ rfl)).drew), Lib.hid ?_⟩, by simp [intOf]; omega⟩
            have hh := ((((P.out.set ((18 + j) * 4) (.int .i64 2)).set ((18 + j) * 4 + 1) (.int .i64 y1)).set ((18 + j) * 4 + 2) (.int .i64 y2)).set ((18 + j) * 4 + 3) (.int .i64 y3)).drew
            have hst := modStep2 j hj2
            rw [HX.out, Y1.out, Y2.out, Y3.out] at hst
            rw [← List.map_set, ← List.map_set, ← List.map_set, ← List.map_set, hst] at hh
            exact hh
          · obtain rfl : j = 6 := by omega
            go_wp2_with fail
            exact ⟨⟨3, 24, by omega, by omega, rfl, rfl, Lib.hid rfl, W, P⟩, by simp [intOf]⟩
      · obtain rfl : n = 24 := hn.out
        have c0 := W.out.cell (B7.out.cell 3 rfl) (by omega)
        have c1 := W.out.cell (B12.out.cell 3 rfl) (by omega)
        go_wp2_with fail
        go_loopw [6, 32] (fun num i wr => ∃ j : Nat, j ≤ 5 ∧ i = .int .i64 j ∧ num = .int .i64 (24 + j) ∧ Hid (Wrote (fun k => k = w.heap.size + 1 + 1 + 1 + 1 + 1 + 1 + 1 + 1 + 1 + 1 + 1 + 1 + 1) w14 wr) ∧ Hid (Blk wr (w.heap.size + 1 + 1 + 1 + 1 + 1 + 1 + 1 + 1 + 1 + 1 + 1 + 1 + 1) ((modPart (24 + j)).map (Value.int .i64)) 74)) (fun _ i _ => 5 - (intOf i).toNat)
        case atStart => exact ⟨0, by omega, rfl, rfl, W, P⟩
        case round =>
          clear W P
          obtain ⟨j, hj, rfl, rfl, W, P⟩ := hrel
          by_cases hj2 : j < 5
          · obtain ⟨x, hx⟩ : ∃ x : Nat, ([6, 7, 8, 9, 10] : List Nat).getD j 0 = x := ⟨_, rfl⟩
            have hx2 : x < 11 := by rw [← hx]; exact (by decide : ∀ j < 5, ([6, 7, 8, 9, 10] : List Nat).getD j 0 < 11) j hj2
            have d0 := W.out.cell (B6.out.cell (v := .int .i64 (x : Int)) j (by rw [List.getElem?_map, ← hx, (by decide : ∀ j < 5, ([6, 7, 8, 9, 10] : List Int)[j]? = some (((([6, 7, 8, 9, 10] : List Nat).getD j 0 : Nat) : Int))) j hj2]; rfl)) (by omega)
            have d1 := W.out.cell (B1.out.cell (v := .int .i64 (modLong.getD x 0)) x (by rw [List.getElem?_map, (by decide : ∀ j < 11, ([16008, 21408, 25728, 32208, 38688, 43040, 48408, 51648, 53840, 57472, 58192] : List Int)[j]? = some (modLong.getD j 0)) x hx2]; rfl)) (by omega)
            have d2 := W.out.cell (B2.out.cell (v := .int .i64 (modShort.getD x 0)) x (by rw [List.getElem?_map, (by decide : ∀ j < 11, ([3072, 5232, 6312, 7032, 9552, 10632, 11712, 12432, 13152, 14232, 0] : List Int)[j]? = some (modShort.getD j 0)) x hx2]; rfl)) (by omega)
            have d3 := W.out.cell (B11.out.cell (v := .int .i64 (([1273, 1364, 1428, 1569, 1605] : List Int).getD j 0)) j (by rw [List.getElem?_map, (by decide : ∀ j < 5, ([1273, 1364, 1428, 1569, 1605] : List Int)[j]? = some (([1273, 1364, 1428, 1569, 1605] : List Int).getD j 0)) j hj2]; rfl)) (by omega)
            have HX := Lib.hid hx
            clear hx
            obtain ⟨y1, hy1⟩ : ∃ y, modLong.getD x 0 = y := ⟨_, rfl⟩
            obtain ⟨y2, hy2⟩ : ∃ y, modShort.getD x 0 = y := ⟨_, rfl⟩
            obtain ⟨y3, hy3⟩ : ∃ y, ([1273, 1364, 1428, 1569, 1605] : List Int).getD j 0 = y := ⟨_, rfl⟩
            rw [hy1] at d1
            rw [hy2] at d2
            rw [hy3] at d3
            have Y1 := Lib.hid hy1
            have Y2 := Lib.hid hy2
            have Y3 := Lib.hid hy3
            clear hy1 hy2 hy3
            have hc1 := W.out.cell (B12.out.cell 3 rfl) (by omega)
            obtain ⟨v0, e0⟩ := P.out.has ((24 + j) * 4) (by rw [List.length_map, modPart_length (by omega)]; omega)
            obtain ⟨v1, e1⟩ := P.out.has ((24 + j) * 4 + 1) (by rw [List.length_map, modPart_length (by omega)]; omega)
            obtain ⟨v2, e2⟩ := P.out.has ((24 + j) * 4 + 2) (by rw [List.length_map, modPart_length (by omega)]; omega)
            obtain ⟨v3, e3⟩ := P.out.has ((24 + j) * 4 + 3) (by rw [List.length_map, modPart_length (by omega)]; omega)
            have F := fun o => P.out.free o
            go_wp2_with fail
            go_region
            go_wp2_with fail
            refine ⟨⟨j + 1, by omega, by go_num, by go_num, Lib.hid (((((W.out.trans (Wrote.set _ _ _ _ _ rfl)).trans (Wrote.set _ _ _ _ _ rfl)).trans (Wrote.set _ _ _ _ _ rfl)).trans (Wrote.set _ _ _ _ _ rfl)).drew), Lib.hid ?_⟩, by simp [intOf]; omega⟩
            have hh := ((((P.out.set ((24 + j) * 4) (.int .i64 3)).set ((24 + j) * 4 + 1) (.int .i64 y1)).set ((24 + j) * 4 + 2) (.int .i64 y2)).set ((24 + j) * 4 + 3) (.int .i64 y3)).drew
            have hst := modStep3 j hj2
            rw [HX.out, Y1.out, Y2.out, Y3.out] at hst
            rw [← List.map_set, ← List.map_set, ← List.map_set, ← List.map_set, hst] at hh
            exact hh
          · obtain rfl : j = 5 := by omega
            go_wp2_with fail
            exact ⟨⟨4, 29, by omega, by omega, rfl, rfl, Lib.hid rfl, W, P⟩, by simp [intOf]⟩
    · obtain rfl : k = 4 := by omega
      obtain rfl : n = 29 := hn.out
      have P2 : Blk wr (w.heap.size + 1 + 1 + 1 + 1 + 1 + 1 + 1 + 1 + 1 + 1 + 1 + 1 + 1) (modTab.map (Value.int .i64)) 74 := by
        have := P.out
        rwa [show modPart (Int.toNat 29) = modTab by decide +kernel] at this
      obtain ⟨cs, hcs⟩ : ∃ cs, (modTab.map (Value.int .i64)).toArray = cs := ⟨_, rfl⟩
      have hlc : Hid (wr.heap[w.heap.size + 1 + 1 + 1 + 1 + 1 + 1 + 1 + 1 + 1 + 1 + 1 + 1 + 1]? = some (.cells cs 74 (0, 0))) := Lib.hid (by rw [← hcs]; exact P2)
      have hB0 := B0.out.kept W.out (by omega)
      have hsz : cs.size = 116 := by rw [← hcs]; decide +kernel
      have hi : (Try.prog.info? 74).map (·.size) = some cs.size := by rw [hsz]; kernel_rfl
      have hone : cs.all (·.oneCell') = true := by rw [← hcs]; decide +kernel
      go_wp2_with (first | (refine wpList_loadRow rfl _ rfl 74 (.tmp 5) rfl (w.heap.size + 1 + 1 + 1 + 1 + 1 + 1 + 1 + 1 + 1 + 1 + 1 + 1 + 1) rfl cs 29 _ hlc.out Try.underlying74 hi ?_) | (refine wpList_storeRow rfl _ rfl 74 (.tmp 0) (.tmp 60) rfl (w.heap.size) rfl cs _ rfl hB0 hi (by rw [hsz]; rfl) hone ?_))
      have hld := run_loadVar_row (P := Try.prog) (wr.setRow w.heap.size cs) w.heap.size 74 74 cs (0, 0) _ (setRow_heap wr _ _ cs _ _ hB0) Try.underlying74 rfl hi
      refine bodyPost_ret (v := .agg cs) ?_ rfl ⟨rfl, ?_⟩
      · simp [results, Try.results50, asAddr, hld]
      · have hb := Wrote.below hbel W.out (fun i hi => by rw [hi]; omega)
        exact ⟨hb.os, hb.tape, hb.output, by rw [setRow_size]; exact hb.size, fun k hk => (setRow_other wr _ k cs (by omega)).trans (hb.block k hk)⟩

end Go.Proofs.Ytdipbdoekmcgbaa
