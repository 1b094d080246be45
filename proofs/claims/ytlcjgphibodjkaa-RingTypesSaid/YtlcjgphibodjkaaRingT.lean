/-
  ring.Ring[thing], by contract: things of two cells. (Printed by mkringt.py.)
-/
import Derived.Test.YtlcjgphibodjkaaQueue
import Derived.Test.YtlcjgphibodjkaaRow
import Derived.Test.YtlcjgphibodjkaaHeld
import Derived.Deep.AppendLies
import Derived.Lib.SliceRun
import Derived.Laws.IdiomCopy
namespace Go.Proofs.Ytlcjgphibodjkaa.ringT
open Go.RowKit

abbrev TR : Nat := 88
abbrev TT : Nat := 67
abbrev TL : Nat := 69
/-- A thing: a number, and a slice. -/
abbrev TH : Type := Int × Option Addr × Nat × Nat
abbrev sl (p : TH) : Value := .slice p.2.1 p.2.2.1 p.2.2.2
abbrev tV (p : TH) : Value := .agg #[.int .i64 p.1, sl p]
def pc (ps : List TH) : List Value := ps.flatMap (fun p => [.int .i64 p.1, sl p])
theorem pc_length (ps : List TH) : (pc ps).length = ps.length * 2 := by
  induction ps with
  | nil => rfl
  | cons p ps ih => show ((.int .i64 p.1) :: sl p :: pc ps).length = _; simp [ih]; omega
theorem pc_append (a b : List TH) : pc (a ++ b) = pc a ++ pc b := by simp [pc]
theorem pc_at (ps : List TH) : ∀ (i : Nat) (p : TH), ps[i]? = some p → (pc ps)[i * 2]? = some (.int .i64 p.1) ∧ (pc ps)[i * 2 + 1]? = some (sl p) := by
  induction ps with
  | nil => intro i p h; simp at h
  | cons q ps ih =>
    intro i p h
    match i with
    | 0 =>
      obtain rfl : q = p := by simpa using h
      exact ⟨rfl, rfl⟩
    | i + 1 =>
      have h2 := ih i p (by simpa using h)
      have e : pc (q :: ps) = .int .i64 q.1 :: sl q :: pc ps := rfl
      rw [e, show (i + 1) * 2 = i * 2 + 1 + 1 by omega]
      simpa using h2
theorem pc_one (ps : List TH) : ∀ u ∈ pc ps, u.oneCell' = true := fun u hu => by
  obtain ⟨p, hp, hu⟩ := List.mem_flatMap.1 hu
  simp at hu
  rcases hu with rfl | rfl
  · rfl
  · rfl
/-- A ring behind a pointer: the things in it, in order. -/
structure Ring (w : World) (r B : Nat) (room : Nat) (v : Value) (ps : List TH) : Prop where
  S : Blk w r [.int .i64 room, v] TR
  q : Que w B 2 v ps.length (pc ps)
  lt : r < B
  hB : B ≤ w.heap.size
theorem Ring.form {w : World} {r B room : Nat} {v : Value} {ps : List TH} (h : Ring w r B room v ps) : ∃ a cap, v = .slice a ps.length cap := by
  rcases h.q.2 with ⟨h1, h2⟩ | ⟨g, off, cap, h1, _⟩
  · exact ⟨none, 0, by rw [h1, h2]⟩
  · exact ⟨_, _, h1⟩
theorem Ring.kept {p : Nat → Prop} {w w' : World} {r B room : Nat} {v : Value} {ps : List TH} (h : Ring w r B room v ps) (k : Wrote p w w') (hr : ¬ p r) (hp : ∀ j, sliceAt v j → ¬ p j) : Ring w' r B room v ps :=
  ⟨h.S.kept k hr, h.q.kept k hp, h.lt, Nat.le_trans h.hB k.size⟩
theorem Ring.below {w w' : World} {r B room : Nat} {v : Value} {ps : List TH} (h : Ring w r B room v ps) (k : Below w.heap.size w w') : Ring w' r B room v ps :=
  h.kept (p := fun j => w.heap.size ≤ j) ⟨k.os, k.tape, k.output, k.size, fun j hj hp => k.block j hj⟩ (by have := h.lt; have := h.hB; omega) (fun j hj => by have := (h.q.lt j hj).2; omega)
theorem elem_info : (Try.prog.info? TT).map (fun i => (i.zero, i.size, i.bytes)) = some (some (.agg #[.int .i64 0, .slice none 0 0]), 2, 32) := by kernel_rfl

set_option maxRecDepth 100000 in
set_option maxHeartbeats 400000 in
theorem new (n : Nat) (w : World) (h1 : 1 ≤ n) (h2 : n ≤ 65536) : Calls Try.prog 36 #[.int .i64 n] w fun e w' => e = .returned (.pointer (some ⟨w.heap.size, 0, none⟩)) ∧ Below w.heap.size w w' ∧ Ring w' w.heap.size (w.heap.size + 1) n (.slice none 0 0) [] := by
  have h3 : (1 : Int) ≤ n := by omega
  have h4 : (n : Int) ≤ 65536 := by omega
  go_enter Try.func36, Try.ntmps36
  go_wp2
  go_returns
  exact ⟨rfl, (Below.refl _ _).alloc (Nat.le_refl _) _, Blk.new w [.int .i64 n, .slice none 0 0] TR, Que.nil _ _ _, by omega, by simp⟩

set_option maxRecDepth 100000 in
set_option maxHeartbeats 400000 in
theorem len (r B room : Nat) (v : Value) (ps : List TH) (w : World) (h : Ring w r B room v ps) :
    Calls Try.prog 41 #[.pointer (some ⟨r, 0, none⟩)] w fun e w' => e = .returned (.int .i64 ps.length) ∧ w = w' := by
  have c1 := h.S.cell 1 rfl
  obtain ⟨a, cap, rfl⟩ := h.form
  clear h
  go_enter Try.func41, Try.ntmps41
  go_wp2
  go_returns
  exact ⟨rfl, rfl⟩

set_option maxRecDepth 100000 in
set_option maxHeartbeats 400000 in
theorem first (r B room : Nat) (v : Value) (p : TH) (ps : List TH) (w : World) (h : Ring w r B room v (p :: ps)) :
    Calls Try.prog 40 #[.pointer (some ⟨r, 0, none⟩)] w fun e w' => e = .returned (.tuple #[tV p, .bool true]) ∧ Below w.heap.size w w' := by
  have HB : Hid (∀ X : List Value, Below w.heap.size w (w.alloc (.cells X.toArray TT))) := Lib.hid (fun X => (Below.refl _ _).alloc (Nat.le_refl _) _)
  obtain ⟨g, off, cap, hv, hg, hc0, hc1⟩ : ∃ g off cap, v = .slice (some ⟨g, off, none⟩) (ps.length + 1) cap ∧ g < w.heap.size ∧ w.cell? ⟨g, off, none⟩ = some (.int .i64 p.1) ∧ w.cell? ⟨g, off + 1, none⟩ = some (sl p) := by
    rcases h.q.2 with ⟨_, h2⟩ | ⟨g, off, cap, h1, _, h2, _, _, h3, _⟩
    · simp at h2
    · exact ⟨g, off, cap, h1, h2, by have := h3 0 (by simp); simpa [pc] using this, by have := h3 1 (by simp; omega); simpa [pc] using this⟩
  subst hv
  have S0 := h.S.alloc (.cells #[.int .i64 0, .slice none 0 0] TT)
  have c1 := S0.cell 1 rfl
  have b0 : (w.alloc (.cells #[.int .i64 0, .slice none 0 0] TT)).cell? ⟨g, off, none⟩ = _ := (World.cell?_alloc_lt _ _ _ hg).trans hc0
  have b1 : (w.alloc (.cells #[.int .i64 0, .slice none 0 0] TT)).cell? ⟨g, off + 1, none⟩ = _ := (World.cell?_alloc_lt _ _ _ hg).trans hc1
  have hn : ((ps.length : Int) + 1 == 0) = false := by simp; omega
  have hl : (0 : Int) < (ps.length : Int) + 1 := by omega
  obtain ⟨a, ya, yn, yc⟩ := p
  simp only at b0 b1 HB
  clear h S0 hc0 hc1
  go_enter Try.func40, Try.ntmps40
  have N := Blk.new w [.int .i64 a, .slice ya yn yc] TT
  have g0 := N.cell 0 rfl
  have g1 := N.cell 1 rfl
  clear N
  go_wp2_with fail
  refine bodyPost_ret (by simp [results, Try.results40, go_sem, g0, g1]; try rfl) rfl ?_
  exact ⟨rfl, HB.out [.int .i64 a, .slice ya yn yc]⟩

set_option maxRecDepth 100000 in
set_option maxHeartbeats 400000 in
theorem first_none (r B room : Nat) (v : Value) (w : World) (h : Ring w r B room v []) :
    Calls Try.prog 40 #[.pointer (some ⟨r, 0, none⟩)] w fun e w' => e = .returned (.tuple #[.agg #[.int .i64 0, .slice none 0 0], .bool false]) ∧ Below w.heap.size w w' := by
  have S0 := h.S.alloc (.cells #[.int .i64 0, .slice none 0 0] TT)
  have c1 := S0.cell 1 rfl
  obtain ⟨a, cap, rfl⟩ := h.form
  have N := Blk.new w [.int .i64 0, .slice none 0 0] TT
  have g0 := N.cell 0 rfl
  have g1 := N.cell 1 rfl
  clear h S0 N
  go_enter Try.func40, Try.ntmps40
  go_wp2_with fail
  refine bodyPost_ret (by simp [results, Try.results40, go_sem, g0, g1]; try rfl) rfl ?_
  exact ⟨rfl, (Below.refl _ _).alloc (Nat.le_refl _) _⟩

theorem clear_one (w : World) (ty : TypeId) (g o c : Nat) (hc : ∀ j, j < 2 → (w.cell? ⟨g, o + j, none⟩).isSome = true) (hf : ∀ j, j < 2 → w.frozen? ⟨g, o + j, none⟩ = false) :
    (Builtin.clear_ #[TL] ty #[.slice (some ⟨g, o, none⟩) 1 c]).run Try.prog w = .ok (.tuple #[]) (w.setCells g o [.int .i64 0, .slice none 0 0]) := by
  have hst := run_storeCells_cells (P := Try.prog) g o [.int .i64 0, .slice none 0 0] 0 w (by simpa using hc) (by simpa using hf) (by intro v hv; simp at hv; rcases hv with rfl | rfl <;> rfl)
  rw [Nat.add_zero] at hst
  have hz : (Builtin.zeroCells (Value.agg #[.int .i64 0, .slice none 0 0]).cells 1).toList = [.int .i64 0, .slice none 0 0] := by kernel_rfl
  simp [Builtin.clear_, run_underlying Try.underlying69, hz, hst]

set_option maxRecDepth 100000 in
set_option maxHeartbeats 400000 in
theorem take (r B room : Nat) (v : Value) (p : TH) (ps : List TH) (w : World) (h : Ring w r B room v (p :: ps)) :
    Calls Try.prog 39 #[.pointer (some ⟨r, 0, none⟩)] w fun e w' => e = .returned (.tuple #[tV p, .bool true]) ∧ ∃ v', Wrote (fun k => k = r ∨ sliceAt v k) w w' ∧ Ring w' r B room v' ps ∧ ∀ k, sliceAt v' k → sliceAt v k := by
  have hB := h.hB
  have hrB := h.lt
  have A0 : Blk (w.alloc (.cells #[.int .i64 0, .slice none 0 0] TT)) w.heap.size [.int .i64 0, .slice none 0 0] TT := Blk.new _ _ _
  have b0 : Below w.heap.size w (w.alloc (.cells #[.int .i64 0, .slice none 0 0] TT)) := (Below.refl _ _).alloc (Nat.le_refl _) _
  have R0 := h.below b0
  obtain ⟨g, off, cap, hv, hBg, hg, hnc, hcm⟩ : ∃ g off cap, v = .slice (some ⟨g, off, none⟩) (ps.length + 1) cap ∧ B ≤ g ∧ g < w.heap.size ∧ ps.length + 1 ≤ cap ∧ cap ≤ maxLen := by
    rcases h.q.2 with ⟨_, h2⟩ | ⟨g, off, cap, h1, h2, h3, h4, h5, _⟩
    · simp at h2
    · exact ⟨g, off, cap, h1, h2, h3, h4, h5⟩
  have HR0 := Lib.hid R0
  have HA0 := Lib.hid A0
  have Hb0 := Lib.hid b0
  clear h R0 A0 b0
  go_enter Try.func39, Try.ntmps39
  go_wp2_with fail
  refine (first r B room v p ps _ HR0.out).mono ?_
  rintro e w1 ⟨rfl, q1⟩
  have R1 := Lib.hid (HR0.out.below q1)
  have A1 := HA0.out.below q1 HA0.out.lt
  have b1 := bthen Hb0.out q1
  obtain ⟨a, ya, yn, yc⟩ := p
  have c0 := A1.cell 0 rfl
  have c1 := A1.cell 1 rfl
  have f0 := A1.free 0
  have f1 := A1.free 1
  have A2 := (A1.set 0 (.int .i64 a)).set 1 (.slice ya yn yc)
  have hW2 : Wrote (fun k => k = w.heap.size) w1 ((w1.setCell ⟨w.heap.size, 0, none⟩ (.int .i64 a)).setCell ⟨w.heap.size, 1, none⟩ (.slice ya yn yc)) := (Wrote.set (fun k => k = w.heap.size) _ _ _ _ rfl).trans (Wrote.set (fun k => k = w.heap.size) _ _ _ _ rfl)
  have R2 := R1.out.kept hW2 (by omega) (fun j hj => by have := (R1.out.q.lt j hj).1; have := HR0.out.q.lt j hj; subst hv; obtain ⟨_, _, _, e⟩ := hj; simp at e; omega)
  obtain ⟨w2, hw2⟩ : ∃ w2, (w1.setCell ⟨w.heap.size, 0, none⟩ (.int .i64 a)).setCell ⟨w.heap.size, 1, none⟩ (.slice ya yn yc) = w2 := ⟨_, rfl⟩
  rw [hw2] at A2 R2 hW2
  obtain ⟨hcl, hsp⟩ : (∀ j, j < (ps.length + 1) * 2 → w2.cell? ⟨g, off + j, none⟩ = (pc ((a, ya, yn, yc) :: ps))[j]?) ∧ ∀ j, j < cap * 2 → (w2.cell? ⟨g, off + j, none⟩).isSome = true ∧ w2.frozen? ⟨g, off + j, none⟩ = false := by
    rcases R2.q.2 with ⟨h1, _⟩ | ⟨g', off', cap', h1, _, _, _, _, h2, h3⟩
    · rw [hv] at h1; cases h1
    · rw [hv] at h1
      simp at h1
      obtain ⟨⟨rfl, rfl⟩, rfl⟩ := h1
      exact ⟨h2, h3⟩
  have hclr : ∀ ty c, (Builtin.clear_ #[TL] ty #[.slice (some ⟨g, off, none⟩) 1 c]).run Try.prog w2 = .ok (.tuple #[]) (w2.setCells g off [.int .i64 0, .slice none 0 0]) := fun ty c => clear_one w2 ty g off c (fun j hj => (hsp j (by omega)).1) (fun j hj => (hsp j (by omega)).2)
  have d1 := R2.S.cell 1 rfl
  have hW3 : Wrote (fun k => k = g) w2 (w2.setCells g off [.int .i64 0, .slice none 0 0]) := (Wrote.set (fun k => k = g) _ _ _ _ rfl).trans (Wrote.set (fun k => k = g) _ _ _ _ rfl)
  obtain ⟨w3, hw3⟩ : ∃ w3, w2.setCells g off [.int .i64 0, .slice none 0 0] = w3 := ⟨_, rfl⟩
  rw [hw3] at hW3 hclr
  have S3 := R2.S.kept hW3 (by omega)
  have A3 := A2.kept hW3 (by omega)
  have d3 := S3.cell 1 rfl
  have e3 := S3.free 1
  unfold maxLen at hcm
  have hcap1 : 1 ≤ cap := by omega
  have hcap2 : (1 : Int) ≤ (ps.length : Int) + 1 := by omega
  subst hv
  by_cases hcc : cap = 1
  · subst hcc
    have hx0 : ps.length = 0 := by omega
    have S4 := S3.set 1 (.slice (some ⟨g, off, none⟩) 0 0)
    have A4 := A3.other (c := r) (o := 1) (v := (.slice (some ⟨g, off, none⟩) 0 0)) (by omega)
    obtain ⟨w4, hw4⟩ : ∃ w4, w3.setCell ⟨r, 1, none⟩ (.slice (some ⟨g, off, none⟩) 0 0) = w4 := ⟨_, rfl⟩
    have W4 : Wrote (fun k => k = r ∨ k = w.heap.size) w3 w4 := by rw [← hw4]; exact Wrote.set (fun k => k = r ∨ k = w.heap.size) _ _ _ _ (.inl rfl)
    rw [hw4] at S4 A4
    have k0 := A4.cell 0 rfl
    have k1 := A4.cell 1 rfl
    have l0 := A4.free 0
    have l1 := A4.free 1
    have A5 := (A4.set 0 (.int .i64 a)).set 1 (.slice ya yn yc)
    have S5 := (S4.other (c := w.heap.size) (o := 0) (v := .int .i64 a) (by omega)).other (c := w.heap.size) (o := 1) (v := .slice ya yn yc) (by omega)
    have W5 : Wrote (fun k => k = r ∨ k = w.heap.size) w3 ((w4.setCell ⟨w.heap.size, 0, none⟩ (.int .i64 a)).setCell ⟨w.heap.size, 1, none⟩ (.slice ya yn yc)) := W4.trans ((Wrote.set (fun k => k = r ∨ k = w.heap.size) _ _ _ _ (.inr rfl)).trans (Wrote.set (fun k => k = r ∨ k = w.heap.size) _ _ _ _ (.inr rfl)))
    obtain ⟨w5, hw5⟩ : ∃ w5, (w4.setCell ⟨w.heap.size, 0, none⟩ (.int .i64 a)).setCell ⟨w.heap.size, 1, none⟩ (.slice ya yn yc) = w5 := ⟨_, rfl⟩
    rw [hw5] at A5 S5 W5
    have g0 := A5.cell 0 rfl
    have g1 := A5.cell 1 rfl
    have hW5 : Wrote (fun k => k = r ∨ sliceAt (.slice (some ⟨g, off, none⟩) (ps.length + 1) 1) k) w w5 := by
      have e1 : Wrote (fun k => k = r ∨ sliceAt (.slice (some ⟨g, off, none⟩) (ps.length + 1) 1) k) w w3 := by
        have x1 := (Wrote.ofBelow b1 (fun k => k = r ∨ sliceAt (.slice (some ⟨g, off, none⟩) (ps.length + 1) 1) k))
        have x2 : Wrote (fun k => k = r ∨ sliceAt (.slice (some ⟨g, off, none⟩) (ps.length + 1) 1) k) w w2 := ⟨hW2.os.trans x1.os, hW2.tape.trans x1.tape, hW2.output.trans x1.output, Nat.le_trans x1.size hW2.size, fun k hk hp => (hW2.block k (Nat.lt_of_lt_of_le hk x1.size) (by omega)).trans (x1.block k hk hp)⟩
        exact x2.trans (hW3.mono (fun k hk => .inr (by subst hk; exact ⟨off, _, _, rfl⟩)))
      exact ⟨W5.os.trans e1.os, W5.tape.trans e1.tape, W5.output.trans e1.output, Nat.le_trans e1.size W5.size, fun k hk hp => (W5.block k (Nat.lt_of_lt_of_le hk e1.size) (fun h => h.elim (fun h => hp (.inl h)) (by omega))).trans (e1.block k hk hp)⟩
    have hg3 : g < w3.heap.size := Nat.lt_of_lt_of_le hg (Nat.le_trans b1.size (Nat.le_trans hW2.size hW3.size))
    have hgb : w5.heap[g]? = w3.heap[g]? := W5.block g hg3 (by omega)
    have hC : Hid (∀ j, 2 ≤ j → w5.cell? ⟨g, off + j, none⟩ = w2.cell? ⟨g, off + j, none⟩) := Lib.hid (fun j hj => by
      rw [World.cell?_of_block (a := ⟨g, off + j, none⟩) hgb, ← hw3]
      exact World.cell?_setCells_out g [.int .i64 0, .slice none 0 0] off w2 ⟨g, off + j, none⟩ (fun _ _ => .inr (by show off + 2 ≤ off + j; omega)))
    have hF : Hid (∀ j, w5.frozen? ⟨g, off + j, none⟩ = w2.frozen? ⟨g, off + j, none⟩) := Lib.hid (fun j => by
      rw [World.frozen?_of_block (a := ⟨g, off + j, none⟩) hgb, ← hw3]
      exact World.frozen?_setCells g [.int .i64 0, .slice none 0 0] off w2 ⟨g, off + j, none⟩)
    have HCL := Lib.hid hcl
    have HSP := Lib.hid hsp
    have hs5 : w.heap.size ≤ w5.heap.size := hW5.size
    have HW5 := Lib.hid hW5
    have HS5 := Lib.hid S5
    clear hcl hsp W4 W5 hW5 S4 S5 A4 A5 A3 S3 hW3 hW2 R1 A1 b1 R2 A2 HR0 HA0 Hb0 hgb hg3 q1
    go_wp2_with fail
    refine bodyPost_ret (by simp [results, Try.results39, go_sem, g0, g1]; try rfl) rfl ?_
    refine ⟨rfl, (.slice (some ⟨g, off, none⟩) 0 0), HW5.out, ⟨HS5.out, ?_, hrB, by omega⟩, fun k ⟨_, _, _, e⟩ => ⟨off, _, _, by simp at e; rw [e.1.1]⟩⟩
    exact ⟨pc_length ps, .inr ⟨g, off, 0, by rw [hx0], hBg, by omega, by omega, by decide, fun j hj => by omega, fun j hj => by omega⟩⟩
  · have hcc2 : cap - 1 ≠ 0 := by omega
    have S4 := S3.set 1 (.slice (some ⟨g, off + 2, none⟩) ps.length (cap - 1))
    have A4 := A3.other (c := r) (o := 1) (v := (.slice (some ⟨g, off + 2, none⟩) ps.length (cap - 1))) (by omega)
    obtain ⟨w4, hw4⟩ : ∃ w4, w3.setCell ⟨r, 1, none⟩ (.slice (some ⟨g, off + 2, none⟩) ps.length (cap - 1)) = w4 := ⟨_, rfl⟩
    have W4 : Wrote (fun k => k = r ∨ k = w.heap.size) w3 w4 := by rw [← hw4]; exact Wrote.set (fun k => k = r ∨ k = w.heap.size) _ _ _ _ (.inl rfl)
    rw [hw4] at S4 A4
    have k0 := A4.cell 0 rfl
    have k1 := A4.cell 1 rfl
    have l0 := A4.free 0
    have l1 := A4.free 1
    have A5 := (A4.set 0 (.int .i64 a)).set 1 (.slice ya yn yc)
    have S5 := (S4.other (c := w.heap.size) (o := 0) (v := .int .i64 a) (by omega)).other (c := w.heap.size) (o := 1) (v := .slice ya yn yc) (by omega)
    have W5 : Wrote (fun k => k = r ∨ k = w.heap.size) w3 ((w4.setCell ⟨w.heap.size, 0, none⟩ (.int .i64 a)).setCell ⟨w.heap.size, 1, none⟩ (.slice ya yn yc)) := W4.trans ((Wrote.set (fun k => k = r ∨ k = w.heap.size) _ _ _ _ (.inr rfl)).trans (Wrote.set (fun k => k = r ∨ k = w.heap.size) _ _ _ _ (.inr rfl)))
    obtain ⟨w5, hw5⟩ : ∃ w5, (w4.setCell ⟨w.heap.size, 0, none⟩ (.int .i64 a)).setCell ⟨w.heap.size, 1, none⟩ (.slice ya yn yc) = w5 := ⟨_, rfl⟩
    rw [hw5] at A5 S5 W5
    have g0 := A5.cell 0 rfl
    have g1 := A5.cell 1 rfl
    have hW5 : Wrote (fun k => k = r ∨ sliceAt (.slice (some ⟨g, off, none⟩) (ps.length + 1) cap) k) w w5 := by
      have e1 : Wrote (fun k => k = r ∨ sliceAt (.slice (some ⟨g, off, none⟩) (ps.length + 1) cap) k) w w3 := by
        have x1 := (Wrote.ofBelow b1 (fun k => k = r ∨ sliceAt (.slice (some ⟨g, off, none⟩) (ps.length + 1) cap) k))
        have x2 : Wrote (fun k => k = r ∨ sliceAt (.slice (some ⟨g, off, none⟩) (ps.length + 1) cap) k) w w2 := ⟨hW2.os.trans x1.os, hW2.tape.trans x1.tape, hW2.output.trans x1.output, Nat.le_trans x1.size hW2.size, fun k hk hp => (hW2.block k (Nat.lt_of_lt_of_le hk x1.size) (by omega)).trans (x1.block k hk hp)⟩
        exact x2.trans (hW3.mono (fun k hk => .inr (by subst hk; exact ⟨off, _, _, rfl⟩)))
      exact ⟨W5.os.trans e1.os, W5.tape.trans e1.tape, W5.output.trans e1.output, Nat.le_trans e1.size W5.size, fun k hk hp => (W5.block k (Nat.lt_of_lt_of_le hk e1.size) (fun h => h.elim (fun h => hp (.inl h)) (by omega))).trans (e1.block k hk hp)⟩
    have hg3 : g < w3.heap.size := Nat.lt_of_lt_of_le hg (Nat.le_trans b1.size (Nat.le_trans hW2.size hW3.size))
    have hgb : w5.heap[g]? = w3.heap[g]? := W5.block g hg3 (by omega)
    have hC : Hid (∀ j, 2 ≤ j → w5.cell? ⟨g, off + j, none⟩ = w2.cell? ⟨g, off + j, none⟩) := Lib.hid (fun j hj => by
      rw [World.cell?_of_block (a := ⟨g, off + j, none⟩) hgb, ← hw3]
      exact World.cell?_setCells_out g [.int .i64 0, .slice none 0 0] off w2 ⟨g, off + j, none⟩ (fun _ _ => .inr (by show off + 2 ≤ off + j; omega)))
    have hF : Hid (∀ j, w5.frozen? ⟨g, off + j, none⟩ = w2.frozen? ⟨g, off + j, none⟩) := Lib.hid (fun j => by
      rw [World.frozen?_of_block (a := ⟨g, off + j, none⟩) hgb, ← hw3]
      exact World.frozen?_setCells g [.int .i64 0, .slice none 0 0] off w2 ⟨g, off + j, none⟩)
    have HCL := Lib.hid hcl
    have HSP := Lib.hid hsp
    have hs5 : w.heap.size ≤ w5.heap.size := hW5.size
    have HW5 := Lib.hid hW5
    have HS5 := Lib.hid S5
    clear hcl hsp W4 W5 hW5 S4 S5 A4 A5 A3 S3 hW3 hW2 R1 A1 b1 R2 A2 HR0 HA0 Hb0 hgb hg3 q1
    go_wp2_with fail
    refine bodyPost_ret (by simp [results, Try.results39, go_sem, g0, g1]; try rfl) rfl ?_
    refine ⟨rfl, (.slice (some ⟨g, off + 2, none⟩) ps.length (cap - 1)), HW5.out, ⟨HS5.out, ?_, hrB, by omega⟩, fun k ⟨_, _, _, e⟩ => ⟨off, _, _, by simp at e; rw [e.1.1]⟩⟩
    refine ⟨pc_length ps, .inr ⟨g, off + 2, cap - 1, rfl, hBg, by omega, by omega, by unfold maxLen; omega, fun j hj => ?_, fun j hj => ?_⟩⟩
    · rw [Nat.add_assoc, hC.out _ (by omega), HCL.out (2 + j) (by omega), Nat.add_comm 2 j]
      rfl
    · rw [Nat.add_assoc, hC.out _ (by omega), hF.out]
      exact HSP.out (2 + j) (by omega)

set_option maxRecDepth 100000 in
set_option maxHeartbeats 400000 in
theorem put (r B room : Nat) (v : Value) (ps : List TH) (p : TH) (w : World) (h : Ring w r B room v ps) (hf : ps.length < room) (hr : room ≤ 65536) :
    Calls Try.prog 37 #[.pointer (some ⟨r, 0, none⟩), tV p] w fun e w' => e = .returned (.int .i64 0) ∧ ∃ v', Wrote (fun k => k = r ∨ sliceAt v k) w w' ∧ Ring w' r B room v' (ps ++ [p]) ∧ ∀ k, sliceAt v' k → sliceAt v k ∨ w.heap.size ≤ k := by
  have hlt : (ps.length : Int) < room := by omega
  have hrB := h.lt
  have hB := h.hB
  have hvl := h.q.lt
  obtain ⟨a, ya, yn, yc⟩ := p
  have b0 : Below w.heap.size w (w.alloc (.cells #[.int .i64 a, .slice ya yn yc] TT)) := (Below.refl _ _).alloc (Nat.le_refl _) _
  have X0 := Blk.new w [.int .i64 a, .slice ya yn yc] TT
  have R0 := h.below b0
  have s0 : (w.alloc (.cells #[.int .i64 a, .slice ya yn yc] TT)).heap.size = w.heap.size + 1 := World.size_alloc _ _
  obtain ⟨va, vc, hv⟩ := h.form
  have c0 := R0.S.cell 0 rfl
  have c1 := R0.S.cell 1 rfl
  rw [hv] at c1
  have HX0 := Lib.hid X0
  have HR0 := Lib.hid R0
  have Hb0 := Lib.hid b0
  have Hs0 := Lib.hid s0
  clear h X0 R0 b0 s0
  go_enter Try.func37, Try.ntmps37
  go_wp2
  go_quiet (fail)
  go_wp2_with fail
  obtain ⟨W, hW⟩ : ∃ W, ((w.alloc (.cells #[.int .i64 a, .slice ya yn yc] TT)).drewN nq).drew = W := ⟨_, rfl⟩
  have KW : Below (w.alloc (.cells #[.int .i64 a, .slice ya yn yc] TT)).heap.size (w.alloc (.cells #[.int .i64 a, .slice ya yn yc] TT)) W := by rw [← hW]; exact ⟨rfl, rfl, rfl, Nat.le_refl _, fun _ _ => rfl⟩
  have XW := HX0.out.below KW HX0.out.lt
  have RW := HR0.out.below KW
  have bW := bthen Hb0.out KW
  have sW : W.heap.size = w.heap.size + 1 := by rw [← hW]; exact Hs0.out
  have cA0 := XW.cell 0 rfl
  have cA1 := XW.cell 1 rfl
  have cR := RW.S.cell 1 rfl
  obtain ⟨i0, hi, hz0, hz1, hz2⟩ := info_parts elem_info
  have hown2 : Que (W.alloc (.cells #[.int .i64 a, .slice ya yn yc] TT)) B 2 v ps.length (pc ps) := RW.q.kept (Wrote.alloc (fun _ => False) W _) (fun _ _ h => h)
  obtain ⟨v', w2, hrun, q2, k2, sub2⟩ := que_push (P := Try.prog) (W.alloc (.cells #[.int .i64 a, .slice ya yn yc] TT)) TL TL TT i0 (.agg #[.int .i64 0, .slice none 0 0]) 2 32 Try.underlying69 hi hz0 hz1 hz2 rfl (by decide) hown2 (by simp; omega) ⟨W.heap.size, 0, none⟩ 1 [.int .i64 a, .slice ya yn yc] rfl
    (World.news_of_block (heap_alloc_new W _)) (by intro u hu; simp at hu; rcases hu with rfl | rfl <;> rfl) (by unfold maxLen; omega) (by omega)
  have hl2 : (ps ++ [((a, ya, yn, yc) : TH)]).length = ps.length + 1 := by simp
  have hpc : pc ps ++ [.int .i64 a, .slice ya yn yc] = pc (ps ++ [((a, ya, yn, yc) : TH)]) := by rw [pc_append]; rfl
  rw [hpc, ← hl2] at q2
  obtain ⟨a2, cap2, hv'⟩ : ∃ a2 cap2, v' = .slice a2 (ps.length + 1) cap2 := by
    rcases q2.2 with ⟨_, h2⟩ | ⟨g, off, cap, h1, _⟩
    · simp at h2
    · exact ⟨_, _, by rw [h1, hl2]⟩
  have hnv : ∀ k, w.heap.size ≤ k → ¬ sliceAt v k := fun k hk hs => by have := (hvl k hs).2; omega
  have hnr : ¬ sliceAt v r := fun hs => by have := (hvl r hs).1; omega
  have XA := XW.alloc (.cells #[.int .i64 a, .slice ya yn yc] TT)
  have X2 := XA.kept k2 (hnv _ (Nat.le_refl _))
  have S2 := (RW.S.alloc (.cells #[.int .i64 a, .slice ya yn yc] TT)).kept k2 hnr
  have m0 := XA.cell 0 rfl
  have m1 := XA.cell 1 rfl
  have mR := (RW.S.alloc (.cells #[.int .i64 a, .slice ya yn yc] TT)).cell 1 rfl
  have z0 := X2.cell 0 rfl
  have z1 := X2.cell 1 rfl
  have zR := S2.cell 1 rfl
  have e1 := S2.free 1
  have W2 : Wrote (sliceAt v) W w2 := (Wrote.alloc (sliceAt v) W _).trans k2
  obtain ⟨w3, hw3⟩ : ∃ w3, w2.setCell ⟨r, 1, none⟩ v' = w3 := ⟨_, rfl⟩
  have X3 := X2.other (c := r) (o := 1) (v := v') (by omega)
  have S3 := S2.set 1 v'
  have W3 : Wrote (fun k => k = r ∨ sliceAt v k) W (w2.setCell ⟨r, 1, none⟩ v') := (W2.mono (fun k hk => .inr hk)).trans (Wrote.set (fun k => k = r ∨ sliceAt v k) _ _ _ _ (.inl rfl))
  have Q3 := q2.kept (Wrote.set (fun k => k = r) w2 r 1 v' rfl) (fun j hj e => by have := (q2.lt j hj).1; omega)
  rw [hw3] at X3 S3 W3 Q3
  have u0 := X3.cell 0 rfl
  have u1 := X3.cell 1 rfl
  have HW3 : Hid (Wrote (fun k => k = r ∨ sliceAt v k) w w3) := Lib.hid ((Wrote.ofBelow bW _).trans W3)
  have HS3 := Lib.hid S3
  have HQ3 := Lib.hid Q3
  have HSUB : Hid (∀ k, sliceAt v' k → sliceAt v k ∨ w.heap.size ≤ k) := Lib.hid (fun k hk => (sub2 k hk).imp id (fun h => by simp at h; omega))
  have hB3 : B ≤ w3.heap.size := Nat.le_trans hB HW3.out.size
  clear W3 S3 X3 Q3 W2 S2 X2 XA k2 q2 sub2 hown2 RW XW KW bW hpc hl2 hz0 hz1 hz2 hi hvl sW
  subst hv'
  rw [← hv] at c1
  clear c0 c1
  refine wp_region_noPanic ?_
  refine wp_region_held_drew (S := (fun x => x.cell? ⟨w.heap.size, 0, none⟩ = some (.int .i64 a) ∧ x.cell? ⟨w.heap.size, 1, none⟩ = some (.slice ya yn yc))) (by kernel_rfl) ((by rw [hW]; exact ⟨cA0, cA1⟩)) (fun hHeld => ?_)
  rw [hW] at hHeld ⊢
  clear hW hv
  refine wpAnyH_takeD (i := 0) (v := ?_) rfl (by kernel_rfl) (by kernel_rfl) (by kernel_rfl) (fun _ _ _ h => h) (Or.inl ⟨by rfl, ?_⟩) hHeld ?_
  rotate_left
  · rintro w ⟨s0, s1⟩
    go_simp
    try with_reducible rfl
  try simp only [Act.put, List.setIfInBounds_toArray, List.set_cons_zero, List.set_cons_succ]
  refine wpAnyH_takeD (i := 1) (v := ?_) rfl (by kernel_rfl) (by kernel_rfl) (by kernel_rfl) (fun _ _ _ h => h) (Or.inl ⟨by rfl, ?_⟩) hHeld ?_
  rotate_left
  · rintro w ⟨s0, s1⟩
    go_simp
    try with_reducible rfl
  try simp only [Act.put, List.setIfInBounds_toArray, List.set_cons_zero, List.set_cons_succ]
  refine wpAnyH_takeD (i := 2) (v := ?_) rfl (by kernel_rfl) (by kernel_rfl) (by kernel_rfl) (fun _ _ _ h => h) (Or.inl ⟨by rfl, ?_⟩) hHeld ?_
  rotate_left
  · rintro w ⟨s0, s1⟩
    go_simp
    try with_reducible rfl
  try simp only [Act.put, List.setIfInBounds_toArray, List.set_cons_zero, List.set_cons_succ]
  refine wpAnyH_takeD (i := 3) (v := ?_) rfl (by kernel_rfl) (by kernel_rfl) (by kernel_rfl) (fun _ _ _ h => h) (Or.inl ⟨by rfl, ?_⟩) hHeld ?_
  rotate_left
  · rintro w ⟨s0, s1⟩
    go_simp
    try with_reducible rfl
  try simp only [Act.put, List.setIfInBounds_toArray, List.set_cons_zero, List.set_cons_succ]
  refine wpAnyH_takeD (i := 5) (v := ?_) rfl (by kernel_rfl) (by kernel_rfl) (by kernel_rfl) (fun _ _ _ h => h) (Or.inl ⟨by rfl, ?_⟩) hHeld ?_
  rotate_left
  · rintro w ⟨s0, s1⟩
    go_simp
    try with_reducible rfl
  try simp only [Act.put, List.setIfInBounds_toArray, List.set_cons_zero, List.set_cons_succ]
  refine wpAnyH_two (i := 4) (j := 6) rfl rfl (by kernel_rfl) (fun K hK => ?_) (fun K hK => ?_)
  · go_simp
    refine hK.out _ _ ⟨cA0, cA1⟩ (fun hHeld => ?_)
    clear hK K
    try simp only [Act.put, List.setIfInBounds_toArray, List.set_cons_zero, List.set_cons_succ]
    refine wpAnyH_one (i := 6) rfl (by kernel_rfl) (fun K hK => ?_)
    go_simp
    refine hK.out _ _ ⟨m0, m1⟩ (fun hHeld => ?_)
    clear hK K
    try simp only [Act.put, List.setIfInBounds_toArray, List.set_cons_zero, List.set_cons_succ]
    refine wpAnyH_one (i := 7) rfl (by kernel_rfl) (fun K hK => ?_)
    refine step_append_known rfl (.tmp 23) (.tmp 25) TL rfl v (.slice (some ⟨W.heap.size, 0, none⟩) 1 1) _ w2 rfl rfl hrun ?_
    refine hK.out _ _ ⟨z0, z1⟩ (fun hHeld => ?_)
    clear hK K
    try simp only [Act.put, List.setIfInBounds_toArray, List.set_cons_zero, List.set_cons_succ]
    refine wpAnyH_takeD (i := 8) (v := ?_) rfl (by kernel_rfl) (by kernel_rfl) (by kernel_rfl) (fun _ _ _ h => h) (Or.inl ⟨by rfl, ?_⟩) hHeld ?_
    rotate_left
    · rintro w ⟨s0, s1⟩
      go_simp
      try with_reducible rfl
    try simp only [Act.put, List.setIfInBounds_toArray, List.set_cons_zero, List.set_cons_succ]
    refine wpAnyH_takeD (i := 9) (v := ?_) rfl (by kernel_rfl) (by kernel_rfl) (by kernel_rfl) (fun _ _ _ h => h) (Or.inl ⟨by rfl, ?_⟩) hHeld ?_
    rotate_left
    · rintro w ⟨s0, s1⟩
      go_simp
      try with_reducible rfl
    try simp only [Act.put, List.setIfInBounds_toArray, List.set_cons_zero, List.set_cons_succ]
    refine wpAnyH_one (i := 10) rfl (by kernel_rfl) (fun K hK => ?_)
    go_simp
    refine hK.out _ _ ⟨u0, u1⟩ (fun hHeld => ?_)
    clear hK K
    try simp only [Act.put, List.setIfInBounds_toArray, List.set_cons_zero, List.set_cons_succ]
    refine wpAnyH_done (by kernel_rfl) ?_ _
    refine NoPanic.normal ?_
    clear hHeld hrun cA0 cA1 cR m0 m1 mR zR e1 z0 z1 u0 u1
    go_wp2_with fail
    go_returns
    exact ⟨rfl, _, HW3.out, ⟨HS3.out, HQ3.out, hrB, hB3⟩, HSUB.out⟩
  · go_simp
    refine hK.out _ _ ⟨m0, m1⟩ (fun hHeld => ?_)
    clear hK K
    try simp only [Act.put, List.setIfInBounds_toArray, List.set_cons_zero, List.set_cons_succ]
    refine wpAnyH_one (i := 4) rfl (by kernel_rfl) (fun K hK => ?_)
    go_simp
    refine hK.out _ _ ⟨m0, m1⟩ (fun hHeld => ?_)
    clear hK K
    try simp only [Act.put, List.setIfInBounds_toArray, List.set_cons_zero, List.set_cons_succ]
    refine wpAnyH_one (i := 7) rfl (by kernel_rfl) (fun K hK => ?_)
    refine step_append_known rfl (.tmp 23) (.tmp 25) TL rfl v (.slice (some ⟨W.heap.size, 0, none⟩) 1 1) _ w2 rfl rfl hrun ?_
    refine hK.out _ _ ⟨z0, z1⟩ (fun hHeld => ?_)
    clear hK K
    try simp only [Act.put, List.setIfInBounds_toArray, List.set_cons_zero, List.set_cons_succ]
    refine wpAnyH_takeD (i := 8) (v := ?_) rfl (by kernel_rfl) (by kernel_rfl) (by kernel_rfl) (fun _ _ _ h => h) (Or.inl ⟨by rfl, ?_⟩) hHeld ?_
    rotate_left
    · rintro w ⟨s0, s1⟩
      go_simp
      try with_reducible rfl
    try simp only [Act.put, List.setIfInBounds_toArray, List.set_cons_zero, List.set_cons_succ]
    refine wpAnyH_takeD (i := 9) (v := ?_) rfl (by kernel_rfl) (by kernel_rfl) (by kernel_rfl) (fun _ _ _ h => h) (Or.inl ⟨by rfl, ?_⟩) hHeld ?_
    rotate_left
    · rintro w ⟨s0, s1⟩
      go_simp
      try with_reducible rfl
    try simp only [Act.put, List.setIfInBounds_toArray, List.set_cons_zero, List.set_cons_succ]
    refine wpAnyH_one (i := 10) rfl (by kernel_rfl) (fun K hK => ?_)
    go_simp
    refine hK.out _ _ ⟨u0, u1⟩ (fun hHeld => ?_)
    clear hK K
    try simp only [Act.put, List.setIfInBounds_toArray, List.set_cons_zero, List.set_cons_succ]
    refine wpAnyH_done (by kernel_rfl) ?_ _
    refine NoPanic.normal ?_
    clear hHeld hrun cA0 cA1 cR m0 m1 mR zR e1 z0 z1 u0 u1
    go_wp2_with fail
    go_returns
    exact ⟨rfl, _, HW3.out, ⟨HS3.out, HQ3.out, hrB, hB3⟩, HSUB.out⟩

/-- What came out: a row of the call's own. -/
structure Copied (w w' : World) (v : Value) (ps : List TH) : Prop where
  own : w'.ownsRow w.heap.size TT 2 v ps.length (pc ps)
  bel : Below w.heap.size w w'

/-- 'append(S{}, v...)'. -/
theorem wpList_clone {ops : Array Oper} {rest : List Oper} {o : Oper} {a : Act} {Q : Exit → Act → World → Prop} (hgd : o.guard = none) (s x : Operand)
    (ho : o.op = .call { callee := .builtin .append, args := #[s, x], argTypes := #[TL, TL] }) (w0 : World) (g off n cap : Nat) (ps : List TH)
    (hs : a.eval s = .slice (some ⟨w0.heap.size, 0, none⟩) 0 0) (hq : ps.length = n) (hcl : ∀ j, j < n * 2 → w0.cell? ⟨g, off + j, none⟩ = (pc ps)[j]?)
    (hx : a.eval x = .slice (some ⟨g, off, none⟩) n cap) (hlen : n ≤ 1000000)
    (h : ∀ v' w', Copied w0 w' v' ps → wpList Try.prog ops Q rest (a.put o.dst v') w') :
    wpList Try.prog ops Q (o :: rest) a (w0.alloc (.cells #[] TT)) := by
  obtain ⟨i0, hi, hz0, hz1, hz2⟩ := info_parts elem_info
  refine wpList_plain hgd fun K hK => ?_
  have hown := World.ownsRow_lit (base := w0.heap.size) (e := TT) (size := 2) w0 #[] 0 (Nat.le_refl _) (by decide) rfl
  have hq2 : (pc ps).length = n * 2 := by rw [pc_length, hq]
  obtain ⟨v', w', hr, r1, r2, r3⟩ := run_append_own (P := Try.prog) (w := w0.alloc (.cells #[] TT)) w0.heap.size TL o.type TT i0 (.agg #[.int .i64 0, .slice none 0 0]) 2 32 Try.underlying69 hi hz0 hz1 hz2 rfl (by decide)
    (.slice (some ⟨w0.heap.size, 0, none⟩) 0 0) 0 [] hown ⟨g, off, none⟩ n cap (pc ps) hq2
    (fun j u hu => by
      have hj : j < n * 2 := by have := (List.getElem?_eq_some_iff.1 hu).1; rw [hq2] at this; exact this
      rw [Addr.add_lit, World.cell?_alloc_lt _ _ _ (World.block_lt_of_cell? w0 _ ((hcl j hj).trans hu))]
      exact (hcl j hj).trans hu) (pc_one ps) (by unfold maxLen; omega) (by omega) (by simp)
  unfold Oper.wp execOp
  simp only [ho, resolve, invoke, builtin, Sem.run_bind, Sem.run_pure, Result.andThen_ok, List.map_toArray, List.map_cons, List.map_nil, hs, hx, hr]
  refine hK _ _ (h v' w' ⟨?_, ?_⟩)
  · rw [hq]
    simpa using r1
  · exact ((Below.refl _ _).alloc (Nat.le_refl _) _).grown r2 (by simp) (fun k hk => by simp [Value.ownBlock] at hk; omega)

set_option maxRecDepth 100000 in
set_option maxHeartbeats 400000 in
theorem clone (B n : Nat) (v : Value) (ps : List TH) (w : World) (h : Que w B 2 v n (pc ps)) (hq : ps.length = n) (hn : n ≤ 1000000) :
    Calls Try.prog 49 #[v] w fun e w' => ∃ v', e = .returned v' ∧ Copied w w' v' ps := by
  have hn1 : ∀ w, (binOp .eql TL (.slice none 0 0) (.slice none 0 0)).run Try.prog w = .ok (.bool true) w := fun w => by kernel_rfl
  have hn2 : ∀ a n c w, (binOp .eql TL (.slice (some a) n c) (.slice none 0 0)).run Try.prog w = .ok (.bool false) w := fun a n c w => by rfl
  rcases h.2 with ⟨rfl, h0⟩ | ⟨g, off, cap, rfl, hBg, hg, hnc, hcm, hcl, -⟩
  · clear h
    go_enter Try.func49, Try.ntmps49
    go_wp2
    go_returns
    have hx : ps = [] := List.eq_nil_of_length_eq_zero (by rw [hq, h0])
    subst hx
    exact ⟨_, rfl, World.ownsRow_nil _ _ _ _, Below.refl _ _⟩
  · have HC := Lib.hid hcl
    clear h hcl
    go_enter Try.func49, Try.ntmps49
    go_wp2_with (at_builtin; refine wpList_clone rfl (.tmp 5) (.tmp 6) rfl w g off n cap ps rfl hq HC.out rfl hn ?_; intro v' w' hc; have HCP := Lib.hid hc; clear hc)
    go_returns
    exact ⟨_, rfl, HCP.out⟩

set_option maxRecDepth 100000 in
set_option maxHeartbeats 400000 in
theorem all (r B room : Nat) (v : Value) (ps : List TH) (w : World) (h : Ring w r B room v ps) (hn : ps.length ≤ 1000000) :
    Calls Try.prog 38 #[.pointer (some ⟨r, 0, none⟩)] w fun e w' => ∃ v', e = .returned v' ∧ Copied w w' v' ps := by
  have c1 := h.S.cell 1 rfl
  have H := Lib.hid h
  have hv' := h.form
  clear h
  go_enter Try.func38, Try.ntmps38
  go_wp2_with fail
  refine (clone B _ v ps _ H.out.q rfl hn).mono ?_
  rintro e w1 ⟨v', rfl, hc⟩
  have HC := Lib.hid hc
  clear hc
  go_wp2
  go_returns
  exact ⟨_, rfl, HC.out⟩

end Go.Proofs.Ytlcjgphibodjkaa.ringT
