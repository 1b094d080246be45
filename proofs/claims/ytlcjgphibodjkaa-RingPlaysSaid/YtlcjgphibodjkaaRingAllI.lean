/-
  (*ring.Ring[int]).All, by contract.
-/
import Derived.Test.YtlcjgphibodjkaaRingI
namespace Go.Proofs.Ytlcjgphibodjkaa.ringI
open Go.RowKit

/-- What came out: a row of the call's own. -/
structure Copied (w w' : World) (v : Value) (xs : List Value) : Prop where
  own : w'.ownsRow w.heap.size 3 1 v (xs.length / 1) xs
  bel : Below w.heap.size w w'

/-- 'append(S{}, v...)'. -/
theorem wpList_clone {ops : Array Oper} {rest : List Oper} {o : Oper} {a : Act} {Q : Exit → Act → World → Prop} (hgd : o.guard = none) (s x : Operand)
    (ho : o.op = .call { callee := .builtin .append, args := #[s, x], argTypes := #[37, 37] }) (w0 : World) (g off n cap : Nat) (xs : List Value)
    (hs : a.eval s = .slice (some ⟨w0.heap.size, 0, none⟩) 0 0) (hq : xs.length = n * 1) (hcl : ∀ j, j < n * 1 → w0.cell? ⟨g, off + j, none⟩ = xs[j]?) (h1 : ∀ u ∈ xs, u.oneCell' = true)
    (hx : a.eval x = .slice (some ⟨g, off, none⟩) n cap) (hlen : n ≤ 1000000)
    (h : ∀ v' w', Copied w0 w' v' xs → wpList Try.prog ops Q rest (a.put o.dst v') w') :
    wpList Try.prog ops Q (o :: rest) a (w0.alloc (.cells #[] 3)) := by
  obtain ⟨i0, hi, hz0, hz1, hz2⟩ := info_parts elem_info
  refine wpList_plain hgd fun K hK => ?_
  have hown := World.ownsRow_lit (base := w0.heap.size) (e := 3) (size := 1) w0 #[] 0 (Nat.le_refl _) (by decide) rfl
  obtain ⟨v', w', hr, r1, r2, r3⟩ := run_append_own (P := Try.prog) (w := w0.alloc (.cells #[] 3)) w0.heap.size 37 o.type 3 i0 (.int .i64 0) 1 8 Try.underlying37 hi hz0 hz1 hz2 rfl (by decide)
    (.slice (some ⟨w0.heap.size, 0, none⟩) 0 0) 0 [] hown ⟨g, off, none⟩ n cap xs hq
    (fun j u hu => by
      have hj : j < n * 1 := by have := (List.getElem?_eq_some_iff.1 hu).1; rw [hq] at this; exact this
      rw [Addr.add_lit, World.cell?_alloc_lt _ _ _ (World.block_lt_of_cell? w0 _ ((hcl j hj).trans hu))]
      exact (hcl j hj).trans hu) h1 (by unfold maxLen; omega) (by omega) (by simp)
  unfold Oper.wp execOp
  simp only [ho, resolve, invoke, builtin, Sem.run_bind, Sem.run_pure, Result.andThen_ok, List.map_toArray, List.map_cons, List.map_nil, hs, hx, hr]
  refine hK _ _ (h v' w' ⟨?_, ?_⟩)
  · rw [hq, Nat.mul_div_cancel _ (by decide)]
    simpa using r1
  · exact ((Below.refl _ _).alloc (Nat.le_refl _) _).grown r2 (by simp) (fun k hk => by simp [Value.ownBlock] at hk; omega)

set_option maxRecDepth 100000 in
set_option maxHeartbeats 400000 in
theorem clone (B n : Nat) (v : Value) (xs : List Value) (w : World) (h : Que w B 1 v n xs) (h1 : ∀ u ∈ xs, u.oneCell' = true) (hn : n ≤ 1000000) :
    Calls Try.prog 48 #[v] w fun e w' => ∃ v', e = .returned v' ∧ Copied w w' v' xs := by
  have hq := h.1
  have hn1 : ∀ w, (binOp .eql 37 (.slice none 0 0) (.slice none 0 0)).run Try.prog w = .ok (.bool true) w := fun w => by kernel_rfl
  have hn2 : ∀ a n c w, (binOp .eql 37 (.slice (some a) n c) (.slice none 0 0)).run Try.prog w = .ok (.bool false) w := fun a n c w => by rfl
  rcases h.2 with ⟨rfl, h0⟩ | ⟨g, off, cap, rfl, hBg, hg, hnc, hcm, hcl, -⟩
  · clear h
    go_enter Try.func48, Try.ntmps48
    go_wp2
    go_returns
    have hx : xs = [] := List.eq_nil_of_length_eq_zero (by rw [hq, h0])
    subst hx
    exact ⟨_, rfl, World.ownsRow_nil _ _ _ _, Below.refl _ _⟩
  · have HC := Lib.hid hcl
    have H1 := Lib.hid h1
    clear h hcl h1
    go_enter Try.func48, Try.ntmps48
    go_wp2_with (at_builtin; refine wpList_clone rfl (.tmp 5) (.tmp 6) rfl w g off n cap xs rfl hq HC.out H1.out rfl hn ?_; intro v' w' hc; have HCP := Lib.hid hc; clear hc)
    go_returns
    exact ⟨_, rfl, HCP.out⟩

set_option maxRecDepth 100000 in
set_option maxHeartbeats 400000 in
theorem all (r B room : Nat) (v : Value) (xs : List Value) (w : World) (h : Ring w r B room v xs) (hn : xs.length ≤ 1000000) :
    Calls Try.prog 34 #[.pointer (some ⟨r, 0, none⟩)] w fun e w' => ∃ v', e = .returned v' ∧ Copied w w' v' xs := by
  have c1 := h.S.cell 1 rfl
  have H := Lib.hid h
  have hv' := h.form
  clear h
  go_enter Try.func34, Try.ntmps34
  go_wp2_with fail
  refine (clone B _ v xs _ H.out.q H.out.one (by omega)).mono ?_
  rintro e w1 ⟨v', rfl, hc⟩
  have HC := Lib.hid hc
  clear hc
  go_wp2
  go_returns
  exact ⟨_, rfl, HC.out⟩

end Go.Proofs.Ytlcjgphibodjkaa.ringI
