/-
  ring.Ring[string], by contract.
-/
import Derived.Test.YtlcjgphibodjkaaQueue
import Derived.Deep.AppendLies
import Derived.Lib.SliceRun
namespace Go.Proofs.Ytlcjgphibodjkaa.ringS
open Go.RowKit

abbrev TR : Nat := 79
/-- A ring behind a pointer: the things in it, in order. -/
structure Ring (w : World) (r B : Nat) (room : Nat) (v : Value) (xs : List Value) : Prop where
  S : Blk w r [.int .i64 room, v] TR
  q : Que w B 1 v xs.length xs
  one : ∀ u ∈ xs, u.oneCell' = true
  lt : r < B
  hB : B ≤ w.heap.size
theorem Ring.form {w : World} {r B room : Nat} {v : Value} {xs : List Value} (h : Ring w r B room v xs) : ∃ a cap, v = .slice a xs.length cap := by
  rcases h.q.2 with ⟨h1, h2⟩ | ⟨g, off, cap, h1, _⟩
  · exact ⟨none, 0, by rw [h1, h2]⟩
  · exact ⟨_, _, h1⟩
theorem elem_info : (Try.prog.info? 9).map (fun i => (i.zero, i.size, i.bytes)) = some (some (.string ByteArray.empty), 1, 16) := by kernel_rfl

set_option maxRecDepth 100000 in
set_option maxHeartbeats 400000 in
theorem new_no (n : Int) (w : World) (h : n < 1 ∨ 65536 < n) : Calls Try.prog 12 #[.int .i64 n] w fun e w' => e = .returned (.pointer none) ∧ w = w' := by
  by_cases h1 : n < 1
  · go_enter Try.func12, Try.ntmps12
    go_wp2
    go_returns
    exact ⟨rfl, rfl⟩
  · have h2 : 65536 < n := by omega
    go_enter Try.func12, Try.ntmps12
    go_wp2
    go_returns
    exact ⟨rfl, rfl⟩

set_option maxRecDepth 100000 in
set_option maxHeartbeats 400000 in
theorem new (n : Nat) (w : World) (h1 : 1 ≤ n) (h2 : n ≤ 65536) : Calls Try.prog 12 #[.int .i64 n] w fun e w' => e = .returned (.pointer (some ⟨w.heap.size, 0, none⟩)) ∧ Below w.heap.size w w' ∧ Ring w' w.heap.size (w.heap.size + 1) n (.slice none 0 0) [] := by
  have h3 : (1 : Int) ≤ n := by omega
  have h4 : (n : Int) ≤ 65536 := by omega
  go_enter Try.func12, Try.ntmps12
  go_wp2
  go_returns
  exact ⟨rfl, (Below.refl _ _).alloc (Nat.le_refl _) _, Blk.new w [.int .i64 n, .slice none 0 0] TR, Que.nil _ _ _, fun u hu => (by cases hu), by omega, by simp⟩

set_option maxRecDepth 100000 in
set_option maxHeartbeats 400000 in
theorem put_full (r B room : Nat) (v : Value) (xs : List Value) (x : Value) (w : World) (h : Ring w r B room v xs) (hf : room ≤ xs.length) :
    Calls Try.prog 13 #[.pointer (some ⟨r, 0, none⟩), x] w fun e w' => e = .returned (.int .i64 6) ∧ Wrote (fun _ => False) w w' := by
  have c0 := h.S.cell 0 rfl
  have c1 := h.S.cell 1 rfl
  obtain ⟨a, cap, rfl⟩ := h.form
  have hge : (room : Int) ≤ xs.length := by omega
  clear h
  go_enter Try.func13, Try.ntmps13
  go_wp2
  go_quiet (fail)
  go_wp2
  go_returns
  exact ⟨rfl, ⟨rfl, rfl, rfl, Nat.le_refl _, fun _ _ _ => rfl⟩⟩

set_option maxRecDepth 100000 in
set_option maxHeartbeats 400000 in
theorem first (r B room : Nat) (v : Value) (x : Value) (xs : List Value) (w : World) (h : Ring w r B room v (x :: xs)) :
    Calls Try.prog 42 #[.pointer (some ⟨r, 0, none⟩)] w fun e w' => e = .returned (.tuple #[x, .bool true]) ∧ w = w' := by
  have c1 := h.S.cell 1 rfl
  obtain ⟨g, off, cap, hv, hc⟩ : ∃ g off cap, v = .slice (some ⟨g, off, none⟩) (xs.length + 1) cap ∧ w.cell? ⟨g, off, none⟩ = some x := by
    rcases h.q.2 with ⟨_, h2⟩ | ⟨g, off, cap, h1, _, _, _, _, h3, _⟩
    · simp at h2
    · exact ⟨g, off, cap, h1, by have := h3 0 (by simp); simpa using this⟩
  subst hv
  have hn : ((xs.length : Int) + 1 == 0) = false := by simp; omega
  have hl : (0 : Int) < (xs.length : Int) + 1 := by omega
  clear h
  go_enter Try.func42, Try.ntmps42
  go_wp2
  go_returns
  exact ⟨rfl, rfl⟩

set_option maxRecDepth 100000 in
set_option maxHeartbeats 400000 in
theorem first_none (r B room : Nat) (v : Value) (w : World) (h : Ring w r B room v []) :
    Calls Try.prog 42 #[.pointer (some ⟨r, 0, none⟩)] w fun e w' => e = .returned (.tuple #[.string ByteArray.empty, .bool false]) ∧ w = w' := by
  have c1 := h.S.cell 1 rfl
  obtain ⟨a, cap, rfl⟩ := h.form
  clear h
  go_enter Try.func42, Try.ntmps42
  go_wp2
  go_returns
  exact ⟨rfl, rfl⟩

set_option maxRecDepth 100000 in
set_option maxHeartbeats 400000 in
theorem len (r B room : Nat) (v : Value) (xs : List Value) (w : World) (h : Ring w r B room v xs) :
    Calls Try.prog 16 #[.pointer (some ⟨r, 0, none⟩)] w fun e w' => e = .returned (.int .i64 xs.length) ∧ w = w' := by
  have c1 := h.S.cell 1 rfl
  obtain ⟨a, cap, rfl⟩ := h.form
  clear h
  go_enter Try.func16, Try.ntmps16
  go_wp2
  go_returns
  exact ⟨rfl, rfl⟩

/-- 'append(v, x)' on such a row. -/
theorem wpList_enq {ops : Array Oper} {rest : List Oper} {o : Oper} {a : Act} {Q : Exit → Act → World → Prop} (hgd : o.guard = none) (s x : Operand)
    (ho : o.op = .call { callee := .builtin .append, args := #[s, x], argTypes := #[75, 75] }) (w0 : World) (B : Nat) (v : Value) (xs : List Value) (y : Value) (h1 : y.oneCell' = true)
    (hs : a.eval s = v) (hown : Que w0 B 1 v xs.length xs) (hB : B ≤ w0.heap.size) (hx : a.eval x = .slice (some ⟨w0.heap.size, 0, none⟩) 1 1) (hlen : xs.length ≤ 1000000)
    (h : ∀ a2 cap2 w', Que w' B 1 (.slice a2 (xs.length + 1) cap2) (xs.length + 1) (xs ++ [y]) → Wrote (sliceAt v) w0 w' → (∀ k, sliceAt (.slice a2 (xs.length + 1) cap2) k → sliceAt v k ∨ w0.heap.size ≤ k) → wpList Try.prog ops Q rest (a.put o.dst (.slice a2 (xs.length + 1) cap2)) w') :
    wpList Try.prog ops Q (o :: rest) a (w0.alloc (.cells #[y] 9)) := by
  obtain ⟨i0, hi, hz0, hz1, hz2⟩ := info_parts elem_info
  refine wpList_plain hgd fun K hK => ?_
  have hown2 : Que (w0.alloc (.cells #[y] 9)) B 1 v xs.length xs := hown.kept (Wrote.alloc (fun _ => False) w0 _) (fun _ _ h => h)
  obtain ⟨v', w', hr, q, k, sub⟩ := que_push (P := Try.prog) (w0.alloc (.cells #[y] 9)) 75 o.type 9 i0 (.string ByteArray.empty) 1 16 Try.underlying75 hi hz0 hz1 hz2 rfl (by decide) hown2 (by simp; omega) ⟨w0.heap.size, 0, none⟩ 1 [y] rfl
    (World.news_of_block (heap_alloc_new w0 _)) (by intro u hu; simp at hu; subst hu; exact h1) (by unfold maxLen; omega) (by omega)
  unfold Oper.wp execOp
  simp only [ho, resolve, invoke, builtin, Sem.run_bind, Sem.run_pure, Result.andThen_ok, List.map_toArray, List.map_cons, List.map_nil, hs, hx, hr]
  obtain ⟨a2, cap2, rfl⟩ : ∃ a cap, v' = .slice a (xs.length + 1) cap := by
    rcases q.2 with ⟨h1, h2⟩ | ⟨g, off, cap, h1, _⟩
    · omega
    · exact ⟨_, _, h1⟩
  exact hK _ _ (h a2 cap2 w' q ((Wrote.alloc (sliceAt v) w0 _).trans k) (fun j hj => (sub j hj).imp id (fun h => by simp at h; omega)))

set_option maxRecDepth 100000 in
set_option maxHeartbeats 400000 in
theorem put (r B room : Nat) (v : Value) (xs : List Value) (y : ByteArray) (w : World) (h : Ring w r B room v xs) (hf : xs.length < room) (hr : room ≤ 65536) :
    Calls Try.prog 13 #[.pointer (some ⟨r, 0, none⟩), (.string y)] w fun e w' => e = .returned (.int .i64 0) ∧ ∃ v', Wrote (fun k => k = r ∨ sliceAt v k) w w' ∧ Ring w' r B room v' (xs ++ [(.string y)]) ∧ ∀ k, sliceAt v' k → sliceAt v k ∨ w.heap.size ≤ k := by
  have c0 := h.S.cell 0 rfl
  have c1 := h.S.cell 1 rfl
  have f1 := h.S.free 1
  have hlt : (xs.length : Int) < room := by omega
  have hlen : xs.length ≤ 1000000 := by omega
  have H := Lib.hid h
  have hrB := h.lt
  obtain ⟨a, cap, hv⟩ := h.form
  rw [hv] at c1
  clear h
  go_enter Try.func13, Try.ntmps13
  go_wp2
  go_quiet (fail)
  have HQ : Hid (Que (w.drewN nq) B 1 v xs.length xs) := Lib.hid (H.out.q.kept (p := fun _ => False) ⟨rfl, rfl, rfl, Nat.le_refl _, fun _ _ _ => rfl⟩ (fun _ _ h => h))
  have HS : Hid (Blk (w.drewN nq) r [.int .i64 room, v] TR) := Lib.hid H.out.S
  have HB : Hid (B ≤ (w.drewN nq).heap.size) := Lib.hid H.out.hB
  have HW : Hid (Wrote (fun k => k = r ∨ sliceAt v k) w (w.drewN nq)) := Lib.hid ⟨rfl, rfl, rfl, Nat.le_refl _, fun _ _ _ => rfl⟩
  rw [← hv] at c1
  go_wp2_with (at_builtin; refine wpList_enq rfl (.tmp 23) (.tmp 25) rfl (w.drewN nq) B v xs (.string y) rfl hv.symm HQ.out HB.out rfl hlen ?_; intro a2 cap2 w2 q2 k2 s2; have SU2 := Lib.hid s2; have Q2 := Lib.hid q2; have K2 := Lib.hid k2; have hnr : ¬ sliceAt v r := (fun h => by have := (HQ.out.lt r h).1; omega); have hs2 : w2.frozen? ⟨r, 1, none⟩ = false := (HS.out.kept k2 hnr).free 1; have S2 := Lib.hid (HS.out.kept k2 hnr); have hcl2 := S2.out.cell 1 rfl; clear q2 k2 s2)
  go_returns
  refine ⟨rfl, _, (HW.out.trans (K2.out.mono (fun k hk => .inr hk))).trans (Wrote.set (fun k => k = r ∨ sliceAt v k) w2 r 1 _ (.inl rfl)), ⟨S2.out.set 1 _, ?_, ?_, hrB, ?_⟩, fun k hk => (SU2.out k hk).imp id (fun h => h)⟩
  · have hq := Q2.out.kept (Wrote.set (fun k => k = r) w2 r 1 (.slice a2 (xs.length + 1) cap2) rfl) (fun j hj e => by have := (Q2.out.lt j hj).1; omega)
    rw [List.length_append]
    exact hq
  · intro u hu
    rcases List.mem_append.1 hu with h | h
    · exact H.out.one u h
    · obtain rfl : u = (.string y) := by simpa using h
      rfl
  · have := K2.out.size
    have := HB.out
    simp
    omega


set_option maxRecDepth 100000 in
set_option maxHeartbeats 400000 in
theorem take_none (r B room : Nat) (v : Value) (w : World) (h : Ring w r B room v []) :
    Calls Try.prog 15 #[.pointer (some ⟨r, 0, none⟩)] w fun e w' => e = .returned (.tuple #[.string ByteArray.empty, .bool false]) ∧ w = w' := by
  go_enter Try.func15, Try.ntmps15
  go_wp2_with fail
  refine (first_none r B room v _ h).mono ?_
  rintro e _ ⟨rfl, rfl⟩
  go_wp2
  go_returns
  exact ⟨rfl, rfl⟩

set_option maxRecDepth 100000 in
set_option maxHeartbeats 400000 in
theorem take (r B room : Nat) (v : Value) (x : Value) (xs : List Value) (w : World) (h : Ring w r B room v (x :: xs)) :
    Calls Try.prog 15 #[.pointer (some ⟨r, 0, none⟩)] w fun e w' => e = .returned (.tuple #[x, .bool true]) ∧ ∃ v', Wrote (fun k => k = r ∨ sliceAt v k) w w' ∧ Ring w' r B room v' xs ∧ ∀ k, sliceAt v' k → sliceAt v k := by
  have H := Lib.hid h
  have c1 := h.S.cell 1 rfl
  obtain ⟨g, off, cap, hv, hBg, hg, hnc, hcm, hcl, hsp⟩ : ∃ g off cap, v = .slice (some ⟨g, off, none⟩) (xs.length + 1) cap ∧ B ≤ g ∧ g < w.heap.size ∧ xs.length + 1 ≤ cap ∧ cap ≤ maxLen ∧ (∀ j, j < (xs.length + 1) * 1 → w.cell? ⟨g, off + j, none⟩ = (x :: xs)[j]?) ∧ ∀ j, j < cap * 1 → (w.cell? ⟨g, off + j, none⟩).isSome = true ∧ w.frozen? ⟨g, off + j, none⟩ = false := by
    rcases h.q.2 with ⟨_, h2⟩ | ⟨g, off, cap, h1⟩
    · simp at h2
    · exact ⟨g, off, cap, h1⟩
  subst hv
  unfold maxLen at hcm
  have hc0 : w.cell? ⟨g, off, none⟩ = some x := by have := hcl 0 (by omega); simpa using this
  have hf0 : w.frozen? ⟨g, off, none⟩ = false := (hsp 0 (by omega)).2
  have f1 := h.S.free 1
  have hrB := h.lt
  have HCL := Lib.hid hcl
  have HSP := Lib.hid hsp
  have hcap1 : 1 ≤ cap := by omega
  have hclr : ∀ ty c, (Builtin.clear_ #[75] ty #[.slice (some ⟨g, off, none⟩) 1 c]).run Try.prog w = .ok (.tuple #[]) (w.setCell ⟨g, off, none⟩ (.string ByteArray.empty)) := fun ty c =>
    Lib.run_clear_slice w 75 9 ty (.string ByteArray.empty) Try.underlying75 (fun w => by kernel_rfl) rfl rfl g off 1 c (by decide) (fun j hj => (HSP.out j (by omega)).1) (fun j hj => (HSP.out j (by omega)).2)
  have hS2 := Lib.hid (H.out.S.other (c := g) (o := off) (v := .string ByteArray.empty) (by omega))
  have c2 := hS2.out.cell 1 rfl
  have f2 := hS2.out.free 1
  have hcap2 : (1 : Int) ≤ (xs.length : Int) + 1 := by omega
  clear h hcl hsp
  have hone : ∀ u ∈ xs, u.oneCell' = true := fun u hu => H.out.one u (by simp [hu])
  have HO := Lib.hid hone
  have hBh := H.out.hB
  have hW : Hid (∀ v', Wrote (fun k => k = r ∨ sliceAt (.slice (some ⟨g, off, none⟩) (xs.length + 1) cap) k) w ((w.setCell ⟨g, off, none⟩ (.string ByteArray.empty)).setCell ⟨r, 1, none⟩ v')) := Lib.hid (fun v' => (Wrote.set _ w g off _ (.inr ⟨off, _, cap, rfl⟩)).trans (Wrote.set _ _ r 1 _ (.inl rfl)))
  have hQ : Hid (∀ v' n ys, Que (w.setCell ⟨g, off, none⟩ (.string ByteArray.empty)) B 1 v' n ys → (∀ k, sliceAt v' k → k = g) → Que ((w.setCell ⟨g, off, none⟩ (.string ByteArray.empty)).setCell ⟨r, 1, none⟩ v') B 1 v' n ys) := Lib.hid (fun v' n ys hq hk => hq.kept (Wrote.set (fun k => k = r) _ r 1 v' rfl) (fun j hj e => by have := hk j hj; omega))
  have hC : Hid (∀ j, 1 ≤ j → (w.setCell ⟨g, off, none⟩ (.string ByteArray.empty)).cell? ⟨g, off + j, none⟩ = w.cell? ⟨g, off + j, none⟩) := Lib.hid (fun j hj => World.cell?_setCells_out g [.string ByteArray.empty] off w ⟨g, off + j, none⟩ (fun _ _ => .inr (by show off + 1 ≤ off + j; omega)))
  have hF : Hid (∀ j, (w.setCell ⟨g, off, none⟩ (.string ByteArray.empty)).frozen? ⟨g, off + j, none⟩ = w.frozen? ⟨g, off + j, none⟩) := Lib.hid (fun j => World.frozen?_setCells g [.string ByteArray.empty] off w ⟨g, off + j, none⟩)
  clear hone
  by_cases hcc : cap = 1
  · subst hcc
    have hx0 : xs.length = 0 := by omega
    go_enter Try.func15, Try.ntmps15
    go_wp2_with fail
    refine (first r B room _ x xs _ H.out).mono ?_
    rintro e _ ⟨rfl, rfl⟩
    go_wp2
    go_returns
    exact ⟨rfl, _, hW.out _, ⟨hS2.out.set 1 _, hQ.out _ _ _ ⟨by simp, .inr ⟨g, off, 0, by rw [hx0], hBg, by simpa using hg, by omega, by decide, fun j hj => by omega, fun j hj => by omega⟩⟩ (fun k ⟨_, _, _, e⟩ => by simp at e; exact e.1.1.symm), HO.out, hrB, by simpa using hBh⟩, fun k ⟨_, _, _, e⟩ => ⟨off, _, _, by simp at e; rw [e.1.1]⟩⟩
  · have hcc2 : cap - 1 ≠ 0 := by omega
    go_enter Try.func15, Try.ntmps15
    go_wp2_with fail
    refine (first r B room _ x xs _ H.out).mono ?_
    rintro e _ ⟨rfl, rfl⟩
    go_wp2
    go_returns
    refine ⟨rfl, _, hW.out _, ⟨hS2.out.set 1 _, hQ.out _ _ _ ⟨by simp, .inr ⟨g, off + 1, cap - 1, rfl, hBg, by simpa using hg, by omega, by unfold maxLen; omega, fun j hj => ?_, fun j hj => ?_⟩⟩ (fun k ⟨_, _, _, e⟩ => by simp at e; exact e.1.1.symm), HO.out, hrB, by simpa using hBh⟩, fun k ⟨_, _, _, e⟩ => ⟨off, _, _, by simp at e; rw [e.1.1]⟩⟩
    · rw [Nat.add_assoc, hC.out _ (by omega), HCL.out (1 + j) (by omega), Nat.add_comm 1 j]
      rfl
    · rw [Nat.add_assoc, hC.out _ (by omega), hF.out]
      exact HSP.out (1 + j) (by omega)

end Go.Proofs.Ytlcjgphibodjkaa.ringS
