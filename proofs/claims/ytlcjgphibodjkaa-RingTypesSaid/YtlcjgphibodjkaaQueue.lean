/-
  A row that is put behind and taken ahead: a slice of the call's own, wherever in its block it begins. No function of the program.
-/
import Derived.Test.YtlcjgphibodjkaaWrote
import Derived.Deep.Upon
namespace Go.Proofs.Ytlcjgphibodjkaa
open Go.RowKit

/-- The block that a slice lies in. -/
def sliceAt (v : Value) (k : Nat) : Prop := ∃ off n cap, v = .slice (some ⟨k, off, none⟩) n cap
/-- n elements, the cells xs, in a slice of the call's own (from block B on). -/
def Que (w : World) (B size : Nat) (v : Value) (n : Nat) (xs : List Value) : Prop :=
  xs.length = n * size ∧ ((v = .slice none 0 0 ∧ n = 0) ∨
    ∃ g off cap, v = .slice (some ⟨g, off, none⟩) n cap ∧ B ≤ g ∧ g < w.heap.size ∧ n ≤ cap ∧ cap ≤ maxLen ∧ (∀ j, j < n * size → w.cell? ⟨g, off + j, none⟩ = xs[j]?) ∧
      ∀ j, j < cap * size → (w.cell? ⟨g, off + j, none⟩).isSome = true ∧ w.frozen? ⟨g, off + j, none⟩ = false)
theorem Que.nil (w : World) (B size : Nat) : Que w B size (.slice none 0 0) 0 [] := ⟨by simp, .inl ⟨rfl, rfl⟩⟩
theorem Que.lt {w : World} {B size : Nat} {v : Value} {n : Nat} {xs : List Value} (h : Que w B size v n xs) : ∀ k, sliceAt v k → B ≤ k ∧ k < w.heap.size := by
  rintro k ⟨off, m, cap, hv⟩
  rcases h.2 with ⟨h0, _⟩ | ⟨g, off', cap', h0, h1, h2, _⟩
  · rw [h0] at hv; cases hv
  · rw [h0] at hv
    simp at hv
    obtain ⟨⟨rfl, _⟩, _⟩ := hv
    exact ⟨h1, h2⟩
theorem Que.kept {w w' : World} {B size : Nat} {v : Value} {n : Nat} {xs : List Value} {p : Nat → Prop} (h : Que w B size v n xs) (k : Wrote p w w') (hp : ∀ j, sliceAt v j → ¬ p j) : Que w' B size v n xs := by
  refine ⟨h.1, ?_⟩
  rcases h.2 with h0 | ⟨g, off, cap, hv, hB, hg, hn, hc, hx, hs⟩
  · exact .inl h0
  · have e := k.block g hg (hp g ⟨off, n, cap, hv⟩)
    exact .inr ⟨g, off, cap, hv, hB, Nat.lt_of_lt_of_le hg k.size, hn, hc, fun j hj => (World.cell?_of_block (a := ⟨g, off + j, none⟩) e).trans (hx j hj),
      fun j hj => ⟨by rw [World.cell?_of_block (a := ⟨g, off + j, none⟩) e]; exact (hs j hj).1, by rw [World.frozen?_of_block (a := ⟨g, off + j, none⟩) e]; exact (hs j hj).2⟩⟩
theorem que_of_own {w : World} {B e size : Nat} {v : Value} {n : Nat} {xs : List Value} (h : w.ownsRow B e size v n xs) : Que w B size v n xs := by
  refine ⟨h.1, ?_⟩
  have h0 := h
  rcases h.2 with ⟨hv, hn⟩ | ⟨g, cap, cur, hv, hb, hg, hnc, hcm, hcs, ht⟩
  · exact .inl ⟨hv, hn⟩
  · subst hv
    refine .inr ⟨g, 0, cap, rfl, hb, lt_of_block hg, hnc, hcm, fun j hj => by rw [Nat.zero_add]; exact h0.cellAt j hj, fun j hj => ⟨?_, ?_⟩⟩
    · rw [Nat.zero_add, cell_of_row w g j cur e (0, 0) hg, Array.getElem?_eq_getElem (by omega)]
      rfl
    · rw [Nat.zero_add]; exact h0.frozenAt j
/-- One element more (or several), whatever the row's place. -/
theorem que_push {P : Program} (w : World) (t ty e : TypeId) (i : TypeInfo) (z : Value) (size bytes : Nat) (ht : P.underlying t = some (.slice e)) (hi : P.info? e = some i) (hz : i.zero = some z) (hsize : i.size = size) (hby : i.bytes = bytes) (hzs : z.cells.size = size) (hsz : 0 < size)
    {B : Nat} {v : Value} {n : Nat} {xs : List Value} (h : Que w B size v n xs) (hB : B ≤ w.heap.size)
    (a : Addr) (c : Nat) (news : List Value) (hl : news.length = 1 * size) (hnews : ∀ j u, news[j]? = some u → w.cell? (a.add j) = some u) (h1 : ∀ u ∈ news, u.oneCell' = true) (h63 : n + 1 ≤ maxLen) (hbytes : (n + 1) * bytes ≤ 140737488355328) :
    ∃ v' w', (Builtin.append_ #[t, t] ty #[v, .slice (some a) 1 c]).run P w = .ok v' w' ∧ Que w' B size v' (n + 1) (xs ++ news) ∧ Wrote (sliceAt v) w w' ∧ (∀ k, sliceAt v' k → sliceAt v k ∨ w.heap.size ≤ k) := by
  rcases h.2 with ⟨hv, hn⟩ | ⟨g, off, cap, hv, hBg, hg, hnc, hcm, hx, hs⟩
  · subst hv hn
    have hxs : xs = [] := List.eq_nil_of_length_eq_zero (by simpa using h.1)
    subst hxs
    obtain ⟨v', w', hr, r1, r2, r3⟩ := run_append_own (P := P) w w.heap.size t ty e i z size bytes ht hi hz hsize hby hzs hsz (.slice none 0 0) 0 [] (World.ownsRow_nil w _ e size) a 1 c news hl hnews h1 h63 hbytes (Nat.le_refl _)
    have hq := que_of_own r1
    refine ⟨v', w', hr, ⟨by simpa using hq.1, ?_⟩, ⟨r2.os, r2.tape, r2.output, r2.size, fun k hk _ => r2.block k hk (by simp [Value.ownBlock])⟩, fun k hk => .inr (hq.lt k hk).1⟩
    rcases hq.2 with h0 | ⟨g, off, cap, a1, a2, a3⟩
    · exact .inl h0
    · exact .inr ⟨g, off, cap, a1, Nat.le_trans hB a2, a3⟩
  · subst hv
    by_cases hr : n + 1 ≤ cap
    · subst hsize
      have hfit : n * i.size + news.length ≤ cap * i.size := by rw [hl, ← Nat.add_mul]; exact Nat.mul_le_mul_right _ hr
      have hsome : ∀ j, j < news.length → (w.cell? ⟨g, off + n * i.size + j, none⟩).isSome = true := fun j hj => by rw [Nat.add_assoc]; exact (hs _ (by omega)).1
      have hrun := run_append_room_cells (P := P) w t ty e i ht hi g off n cap a 1 c news hl hnews h1 hr hsome (fun j hj => by rw [Nat.add_assoc]; exact (hs _ (by omega)).2)
      have hout : ∀ j, j < n * i.size → (w.setCells g (off + n * i.size) news).cell? ⟨g, off + j, none⟩ = w.cell? ⟨g, off + j, none⟩ := fun j hj => World.cell?_setCells_out g news _ w _ (fun _ _ => .inl (by show off + j < off + n * i.size; omega))
      have hsz2 : (w.setCells g (off + n * i.size) news).heap.size = w.heap.size := setCells_size' g news _ w
      refine ⟨_, _, hrun, ⟨by rw [List.length_append, h.1, hl, Nat.add_mul], .inr ⟨g, off, cap, rfl, hBg, by rw [hsz2]; exact hg, hr, hcm, fun j hj => ?_, fun j hj => ?_⟩⟩, ⟨setCells_os g news _ w, setCells_tape g news _ w, setCells_output g news _ w, by rw [hsz2]; exact Nat.le_refl _, fun k hk hp => World.heap_setCells_other w g _ news hk (fun e => hp ⟨off, n, cap, by rw [e]⟩)⟩, fun k hk => .inl ?_⟩
      · rw [Nat.add_mul] at hj
        by_cases hlt : j < n * i.size
        · rw [hout j hlt, hx j hlt, List.getElem?_append_left (by rw [h.1]; exact hlt)]
        · have hj2 : j - n * i.size < news.length := by omega
          have := World.cell?_setCells_in g news (off + n * i.size) w hsome (j - n * i.size) hj2
          rw [show off + n * i.size + (j - n * i.size) = off + j by omega] at this
          rw [this, List.getElem?_append_right (by rw [h.1]; omega), h.1, List.getElem?_eq_getElem hj2]
      · refine ⟨?_, by rw [World.frozen?_setCells]; exact (hs j hj).2⟩
        by_cases hin : n * i.size ≤ j ∧ j < n * i.size + news.length
        · have := World.cell?_setCells_in g news (off + n * i.size) w hsome (j - n * i.size) (by omega)
          rw [show off + n * i.size + (j - n * i.size) = off + j by omega] at this
          rw [this]; rfl
        · rw [World.cell?_setCells_out g news _ w _ (fun _ _ => by show off + j < off + n * i.size ∨ off + n * i.size + news.length ≤ off + j; omega)]
          exact (hs j hj).1
      · obtain ⟨o2, n2, c2, e2⟩ := hk
        simp at e2
        exact ⟨off, n, cap, by rw [e2.1.1]⟩
    · obtain ⟨v', w', hrn, r1, r2⟩ := run_append_arg_grows (P := P) w t ty e i z size bytes ht hi hz hsize hby hzs hsz ⟨g, off, none⟩ n cap xs h.1
        (fun j u hu => by
          rw [Addr.add_lit]
          have hj : j < n * size := by have := (List.getElem?_eq_some_iff.1 hu).1; rw [h.1] at this; exact this
          exact (hx j hj).trans hu) a 1 c news hl hnews (by omega) h63 hbytes
      have hq := que_of_own r1
      refine ⟨v', w', hrn, ⟨hq.1, ?_⟩, ⟨r2.os, r2.tape, r2.output, r2.size, fun k hk _ => r2.block k hk (by simp)⟩, fun k hk => .inr (hq.lt k hk).1⟩
      rcases hq.2 with h0 | ⟨g', off', cap', a1, a2, a3⟩
      · exact .inl h0
      · exact .inr ⟨g', off', cap', a1, Nat.le_trans hB a2, a3⟩
where
  setCells_size' (b : Nat) : ∀ (vs : List Value) (o : Nat) (w : World), (w.setCells b o vs).heap.size = w.heap.size
    | [], _, _ => rfl
    | x :: vs, o, w => by show ((w.setCell ⟨b, o, none⟩ x).setCells b (o + 1) vs).heap.size = _; rw [setCells_size' b vs]; simp
  setCells_os (b : Nat) : ∀ (vs : List Value) (o : Nat) (w : World), (w.setCells b o vs).os = w.os
    | [], _, _ => rfl
    | x :: vs, o, w => by show ((w.setCell ⟨b, o, none⟩ x).setCells b (o + 1) vs).os = _; rw [setCells_os b vs]; rfl
  setCells_tape (b : Nat) : ∀ (vs : List Value) (o : Nat) (w : World), (w.setCells b o vs).tape = w.tape
    | [], _, _ => rfl
    | x :: vs, o, w => by show ((w.setCell ⟨b, o, none⟩ x).setCells b (o + 1) vs).tape = _; rw [setCells_tape b vs]; rfl
  setCells_output (b : Nat) : ∀ (vs : List Value) (o : Nat) (w : World), (w.setCells b o vs).output = w.output
    | [], _, _ => rfl
    | x :: vs, o, w => by show ((w.setCell ⟨b, o, none⟩ x).setCells b (o + 1) vs).output = _; rw [setCells_output b vs]; rfl

end Go.Proofs.Ytlcjgphibodjkaa
