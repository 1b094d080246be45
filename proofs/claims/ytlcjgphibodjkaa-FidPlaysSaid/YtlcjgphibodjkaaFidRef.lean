/-
  aerialref12.Pool: each function by its contract.
-/
import Derived.Test.YtlcjgphibodjkaaWrote
import Derived.Test.YtlcjgphibodjkaaInts
namespace Go.Proofs.Ytlcjgphibodjkaa
open Go.RowKit

abbrev TRP : Nat := 39
/-- The document's pool in block b: those in use, in the slice v; the next one. -/
structure RP (w : World) (b B : Nat) (v : Value) (L : List Int) (n : Int) : Prop where
  S : Blk w b [v, .int .i64 n] TRP
  i : Ints w B v L
  lt : b < B
  hB : B ≤ w.heap.size
theorem Ints.shape {w : World} {B : Nat} {v : Value} {xs : List Int} (h : Ints w B v xs) : (v = .slice none 0 0 ∧ xs = []) ∨ ∃ g cap, v = .slice (some ⟨g, 0, none⟩) xs.length cap ∧ B ≤ g ∧ g < w.heap.size ∧ xs.length ≤ cap := by
  rcases h.2 with ⟨h1, h2⟩ | ⟨g, cap, cur, hv, hb, hg, hnc, _⟩
  · exact .inl ⟨h1, List.eq_nil_of_length_eq_zero h2⟩
  · exact .inr ⟨g, cap, hv, hb, lt_of_block hg, hnc⟩
theorem Ints.wrote {w w' : World} {B : Nat} {v : Value} {xs : List Int} {p : Nat → Prop} (h : Ints w B v xs) (k : Wrote p w w') (hp : ∀ j, B ≤ j → ¬ p j) : Ints w' B v xs := by
  refine ⟨h.1, ?_⟩
  rcases h.2 with h0 | ⟨g, cap, cur, hv, hb, hg, h1⟩
  · exact .inl h0
  · exact .inr ⟨g, cap, cur, hv, hb, (k.block g (lt_of_block hg) (hp g hb)).trans hg, h1⟩
theorem Wrote.block_cell {p : Nat → Prop} {w w' : World} (k : Wrote p w w') {g o : Nat} (hg : g < w.heap.size) (hp : ¬ p g) : w'.cell? ⟨g, o, none⟩ = w.cell? ⟨g, o, none⟩ := World.cell?_of_block (a := ⟨g, o, none⟩) (k.block g hg hp)
/-- Where an id stands; -1: nowhere. -/
def placeI (L : List Int) (id : Int) : Int := match L.findIdx? (fun x => x == id) with | some k => (k : Int) | none => -1
theorem place_at {L : List Int} {id : Int} {k : Nat} (hk : k < L.length) (h : L.getD k 0 = id) (hb : ∀ j, j < k → L.getD j 0 ≠ id) : placeI L id = k := by
  have e : L.findIdx? (fun x => x == id) = some k := by
    rw [List.findIdx?_eq_some_iff_getElem]
    refine ⟨hk, ?_, fun j hj => ?_⟩
    · rw [List.getD_eq_getElem?_getD, List.getElem?_eq_getElem hk] at h
      simpa using h
    · have := hb j hj
      rw [List.getD_eq_getElem?_getD, List.getElem?_eq_getElem (by omega)] at this
      simpa using this
  unfold placeI
  rw [e]
theorem place_none {L : List Int} {id : Int} (h : ∀ j, j < L.length → L.getD j 0 ≠ id) : placeI L id = -1 := by
  have e : L.findIdx? (fun x => x == id) = none := by
    rw [List.findIdx?_eq_none_iff]
    intro x hx
    obtain ⟨j, hj, rfl⟩ := List.mem_iff_getElem.1 hx
    have := h j hj
    rw [List.getD_eq_getElem?_getD, List.getElem?_eq_getElem hj] at this
    simpa using this
  unfold placeI
  rw [e]
theorem place_rng (L : List Int) (id : Int) : (∃ k, k < L.length ∧ placeI L id = k ∧ L.getD k 0 = id) ∨ (placeI L id = -1 ∧ id ∉ L) := by
  unfold placeI
  cases e : L.findIdx? (fun x => x == id) with
  | none =>
    right
    rw [List.findIdx?_eq_none_iff] at e
    exact ⟨rfl, fun h => by have := e id h; simp at this⟩
  | some k =>
    left
    rw [List.findIdx?_eq_some_iff_getElem] at e
    obtain ⟨hk, h1, _⟩ := e
    refine ⟨k, hk, rfl, ?_⟩
    rw [List.getD_eq_getElem?_getD, List.getElem?_eq_getElem hk]
    simpa using h1

set_option maxRecDepth 100000 in
set_option maxHeartbeats 400000 in
theorem rplace (b B : Nat) (v : Value) (L : List Int) (n id : Int) (w : World) (h : RP w b B v L n) (hL : L.length ≤ 100000) :
    Calls Try.prog 46 #[.pointer (some ⟨b, 0, none⟩), .int .i64 id] w fun e w' => e = .returned (.int .i64 (placeI L id)) ∧ w = w' := by
  have c0 := h.S.cell 0 rfl
  have H := Lib.hid h.i
  obtain ⟨a, cap, hv⟩ : ∃ a cap, v = .slice a L.length cap := by
    rcases h.i.shape with ⟨h1, h2⟩ | ⟨g, cap, h1, _⟩
    · exact ⟨none, 0, by rw [h1, h2]; rfl⟩
    · exact ⟨_, cap, h1⟩
  subst hv
  clear h
  go_enter Try.func46, Try.ntmps46
  go_wp2_with fail
  go_loop [5] (fun i => ∃ k : Nat, k ≤ L.length ∧ i = .int .i64 k ∧ Hid (∀ j, j < k → L.getD j 0 ≠ id)) (fun i => (L.length - intOf i).toNat)
  case atStart => exact ⟨0, by omega, rfl, Lib.hid (fun j hj => by omega)⟩
  case round =>
    obtain ⟨k, hk, rfl, hb⟩ := hrel
    by_cases hlt : k < L.length
    · obtain ⟨g, cap', hv, hg1, hg2, hcap⟩ : ∃ g cap', Value.slice a L.length cap = .slice (some ⟨g, 0, none⟩) L.length cap' ∧ B ≤ g ∧ g < w.heap.size ∧ L.length ≤ cap' := by
        rcases H.out.shape with ⟨_, h2⟩ | h1
        · rw [h2] at hlt; simp at hlt
        · exact h1
      simp at hv
      obtain ⟨rfl, rfl⟩ := hv
      have hc := H.out.cell k hlt
      have hlt2 : (k : Int) < L.length := by omega
      by_cases hx : L.getD k 0 = id
      · have HP := Lib.hid (place_at hlt hx hb.out)
        rw [hx] at hc
        go_wp2_with fail
        go_returns
        exact ⟨by rw [HP.out]; rfl, rfl⟩
      · obtain ⟨x, hxx⟩ : ∃ x, L.getD k 0 = x := ⟨_, rfl⟩
        have hb2 : Hid (∀ j, j < k + 1 → L.getD j 0 ≠ id) := Lib.hid (fun j hj => by
          by_cases e : j = k
          · subst e; exact hx
          · exact hb.out j (by omega))
        rw [hxx] at hc hx
        clear hxx
        go_wp2_with fail
        exact ⟨⟨k + 1, by omega, by go_num, hb2⟩, by simp [intOf]; omega⟩
    · have HP := Lib.hid (place_none (L := L) (id := id) (fun j hj => hb.out j (by omega)))
      go_wp2_with fail
      go_returns
      exact ⟨by rw [HP.out]; rfl, rfl⟩

/-- 'append(v, u...)': u a part of a row whose cells are told. -/
theorem wpList_pushFrom {ops : Array Oper} {rest : List Oper} {o : Oper} {a : Act} {Q : Exit → Act → World → Prop} (hgd : o.guard = none) (s x : Operand)
    (ho : o.op = .call { callee := .builtin .append, args := #[s, x], argTypes := #[37, 37] }) (w0 : World) (B : Nat) (v : Value) (xs : List Int)
    (hs : a.eval s = v) (hown : Ints w0 B v xs) (hB : B ≤ w0.heap.size) (g2 off m c : Nat) (ys : List Int) (hx : a.eval x = .slice (some ⟨g2, off, none⟩) m c) (hl : ys.length = m)
    (hcl : ∀ j, j < m → w0.cell? ⟨g2, off + j, none⟩ = some (.int .i64 (ys.getD j 0))) (hlen : xs.length + m ≤ 1000000)
    (h : ∀ a' c' w', Ints w' B (.slice a' (xs.length + m) c') (xs ++ ys) → w0.grownBy w' v.ownBlock → wpList Try.prog ops Q rest (a.put o.dst (.slice a' (xs.length + m) c')) w') :
    wpList Try.prog ops Q (o :: rest) a w0 := by
  obtain ⟨i0, hi, hz0, hz1, hz2⟩ := info_parts int_info
  refine wpList_plain hgd fun K hK => ?_
  obtain ⟨v', w', hr, r1, r2, r3⟩ := run_append_own (P := Try.prog) (w := w0) B 37 o.type 3 i0 (.int .i64 0) 1 8 Try.underlying37 hi hz0 hz1 hz2 rfl (by decide)
    v xs.length (xs.map (Value.int .i64)) hown ⟨g2, off, none⟩ m c (ys.map (Value.int .i64)) (by simp [hl])
    (fun j u hu => by
      have hj : j < ys.length := by have := (List.getElem?_eq_some_iff.1 hu).1; simpa using this
      rw [Addr.add_lit, hcl j (by omega)]
      rw [List.getElem?_map, List.getElem?_eq_getElem hj] at hu
      rw [List.getD_eq_getElem?_getD, List.getElem?_eq_getElem hj]
      exact hu)
    (by intro u hu; obtain ⟨y, _, rfl⟩ := List.mem_map.1 hu; rfl) (by unfold maxLen; omega) (by omega) hB
  have hi' : Ints w' B v' (xs ++ ys) := by
    unfold Ints
    rw [List.length_append, List.map_append, hl]
    exact r1
  obtain ⟨a', c', rfl⟩ : ∃ a' c', v' = .slice a' (xs.length + m) c' := by
    rcases hi'.shape with ⟨h1, h2⟩ | ⟨g, cap, h1, _⟩
    · have : (xs ++ ys).length = 0 := by rw [h2]; rfl
      rw [List.length_append, hl] at this
      exact ⟨none, 0, by rw [h1, this]⟩
    · exact ⟨_, cap, by rw [h1, List.length_append, hl]⟩
  unfold Oper.wp execOp
  simp only [ho, resolve, invoke, builtin, Sem.run_bind, Sem.run_pure, Result.andThen_ok, List.map_toArray, List.map_cons, List.map_nil, hs, hx, hr]
  exact hK _ _ (h a' c' w' hi' r2)

set_option maxRecDepth 100000 in
set_option maxHeartbeats 400000 in
theorem rtake_busy (b B : Nat) (v : Value) (L : List Int) (n : Int) (w : World) (h : RP w b B v L n) (hL : L.length ≤ 100000) (hp : 0 ≤ placeI L n) :
    Calls Try.prog 22 #[.pointer (some ⟨b, 0, none⟩)] w fun e w' => e = .returned (.tuple #[.int .i64 0, .int .i64 18]) ∧ w = w' := by
  have H := Lib.hid h
  have c1 := h.S.cell 1 rfl
  clear h
  go_enter Try.func22, Try.ntmps22
  go_wp2_with fail
  refine (rplace b B v L n n _ H.out hL).mono ?_
  rintro e _ ⟨rfl, rfl⟩
  go_wp2_with fail
  go_returns
  exact ⟨rfl, rfl⟩

set_option maxRecDepth 100000 in
set_option maxHeartbeats 400000 in
theorem rtake (b B : Nat) (v : Value) (L : List Int) (n : Int) (w : World) (h : RP w b B v L n) (hL : L.length ≤ 100000) (hp : placeI L n < 0) (hn : 0 ≤ n ∧ n < 256) :
    Calls Try.prog 22 #[.pointer (some ⟨b, 0, none⟩)] w fun e w' => e = .returned (.tuple #[.int .i64 n, .int .i64 0]) ∧ ∃ v', Hid (RP w' b B v' (L ++ [n]) ((n + 1) % 256)) ∧ Wrote (fun k => k = b ∨ v.ownBlock = some k) w w' ∧ ∀ k, v'.ownBlock = some k → v.ownBlock = some k ∨ w.heap.size ≤ k := by
  have H := Lib.hid h
  have c1 := h.S.cell 1 rfl
  have c0 := h.S.cell 0 rfl
  have f0 := h.S.free 0
  have hbB := h.lt
  have hne : ∀ j, v.ownBlock = some j → j ≠ b := fun j hj => by have := (h.i.lt j hj).1; omega
  have HN := Lib.hid hne
  obtain ⟨a, cap, hv⟩ : ∃ a cap, v = .slice a L.length cap := by
    rcases h.i.shape with ⟨h1, h2⟩ | ⟨g, cap, h1, _⟩
    · exact ⟨none, 0, by rw [h1, h2]; rfl⟩
    · exact ⟨_, cap, h1⟩
  rw [hv] at c0
  clear h hne
  go_enter Try.func22, Try.ntmps22
  go_wp2_with fail
  refine (rplace b B v L n n _ H.out hL).mono ?_
  rintro e _ ⟨rfl, rfl⟩
  go_wp2_with (at_builtin; refine wpList_push rfl (.tmp 17) (.tmp 19) rfl w B v L n L.length rfl hv.symm H.out.i H.out.hB rfl (by omega) ?_; intro g cap2 w2 hi2 hg2 hat2 hl2 hb2; have I2 := Lib.hid hi2; have AT := Lib.hid hat2; have G2 := Lib.hid hg2; have S2 := Lib.hid (H.out.S.kept (p := fun k => v.ownBlock = some k) ⟨hg2.os, hg2.tape, hg2.output, hg2.size, fun k hk hp => hg2.block k hk (fun e => hp e.symm)⟩ (fun e => HN.out b e rfl)); have d0 := S2.out.cell 0 rfl; have d1 := S2.out.cell 1 rfl; have e0 := S2.out.free 0; have e1 := S2.out.free 1; clear hi2 hg2 hat2)
  go_returns
  refine ⟨rfl, _, Lib.hid ⟨(S2.out.set 0 _).set 1 _, ?_, hbB, ?_⟩, ?_, fun k hk => ?_⟩
  · have I3 := (I2.out.other b 0 (.slice (some ⟨g, 0, none⟩) (L.length + 1) cap2) (by omega)).other b 1 (.int .i64 ((n + 1) % 256)) (by omega)
    exact I3
  · have := G2.out.size
    have := H.out.hB
    simp
    omega
  · have W2 : Wrote (fun k => k = b ∨ v.ownBlock = some k) w w2 := ⟨G2.out.os, G2.out.tape, G2.out.output, G2.out.size, fun k hk hp => G2.out.block k hk (fun e => hp (.inr e.symm))⟩
    exact (W2.trans (Wrote.set _ w2 b 0 _ (.inl rfl))).trans (Wrote.set _ _ b 1 _ (.inl rfl))
  · have e : g = k := by simpa [Value.ownBlock] using hk
    subst e
    exact AT.out

set_option maxRecDepth 100000 in
set_option maxHeartbeats 400000 in
theorem rfree_arg (b : Nat) (id : Int) (w : World) (h : id < 0 ∨ 256 ≤ id) :
    Calls Try.prog 20 #[.pointer (some ⟨b, 0, none⟩), .int .i64 id] w fun e w' => e = .returned (.int .i64 2) ∧ w = w' := by
  by_cases h1 : id < 0
  · go_enter Try.func20, Try.ntmps20
    go_wp2
    go_returns
    exact ⟨rfl, rfl⟩
  · have h2 : 256 ≤ id := by omega
    go_enter Try.func20, Try.ntmps20
    go_wp2
    go_returns
    exact ⟨rfl, rfl⟩

set_option maxRecDepth 100000 in
set_option maxHeartbeats 400000 in
theorem rfree_none (b B : Nat) (v : Value) (L : List Int) (n id : Int) (w : World) (h : RP w b B v L n) (hL : L.length ≤ 100000) (h1 : 0 ≤ id) (h2 : id < 256) (hp : placeI L id = -1) :
    Calls Try.prog 20 #[.pointer (some ⟨b, 0, none⟩), .int .i64 id] w fun e w' => e = .returned (.int .i64 5) ∧ w = w' := by
  have H := Lib.hid h
  clear h
  go_enter Try.func20, Try.ntmps20
  go_wp2_with fail
  refine (rplace b B v L n id _ H.out hL).mono ?_
  rw [hp]
  rintro e _ ⟨rfl, rfl⟩
  go_wp2_with fail
  go_returns
  exact ⟨rfl, rfl⟩

set_option maxRecDepth 100000 in
set_option maxHeartbeats 800000 in
theorem rfree (b B : Nat) (v : Value) (L : List Int) (n id : Int) (i : Nat) (w : World) (h : RP w b B v L n) (hL : L.length ≤ 100000) (h1 : 0 ≤ id) (h2 : id < 256) (hi : i < L.length) (hp : placeI L id = i) :
    Calls Try.prog 20 #[.pointer (some ⟨b, 0, none⟩), .int .i64 id] w fun e w' => e = .returned (.int .i64 0) ∧ ∃ v', Hid (RP w' b B v' (L.take i ++ L.drop (i + 1)) n) ∧ Wrote (fun k => k = b) w w' ∧ ∀ k, v'.ownBlock = some k → w.heap.size ≤ k := by
  have H := Lib.hid h
  have c0 := h.S.cell 0 rfl
  have f0 := h.S.free 0
  have hbB := h.lt
  have hbw := h.S.lt
  obtain ⟨g, cap, hv, hg1, hg2, hcap⟩ : ∃ g cap, v = .slice (some ⟨g, 0, none⟩) L.length cap ∧ B ≤ g ∧ g < w.heap.size ∧ L.length ≤ cap := by
    rcases h.i.shape with ⟨_, e⟩ | h1
    · rw [e] at hi; simp at hi
    · exact h1
  subst hv
  have hi0 : (i : Int) ≤ cap := by omega
  have hi1 : (i : Int) + 1 ≤ (L.length : Int) := by omega
  have htl : (L.take i).length = i := by rw [List.length_take]; omega
  have hdl : (L.drop (i + 1)).length = L.length - (i + 1) := List.length_drop
  have hcl : Hid (∀ j, j < i → w.cell? ⟨g, 0 + j, none⟩ = some (.int .i64 ((L.take i).getD j 0))) := Lib.hid (fun j hj => by
    rw [Nat.zero_add, h.i.cell j (by omega), List.getD_eq_getElem?_getD, List.getD_eq_getElem?_getD, List.getElem?_take_of_lt hj])
  have hcl2 : Hid (∀ j, j < L.length - (i + 1) → w.cell? ⟨g, i + 1 + j, none⟩ = some (.int .i64 ((L.drop (i + 1)).getD j 0))) := Lib.hid (fun j hj => by
    rw [h.i.cell (i + 1 + j) (by omega), List.getD_eq_getElem?_getD, List.getD_eq_getElem?_getD, List.getElem?_drop])
  clear h
  by_cases hc1 : cap = i + 1
  · subst hc1
    have HM0 : Hid (L.length = i + 1) := Lib.hid (by omega)
    have hi3 : (i : Int) + 1 ≤ ((i + 1 : Nat) : Int) := by omega
    go_enter Try.func20, Try.ntmps20
    go_wp2_with fail
    refine (rplace b B _ L n id _ H.out hL).mono ?_
    rw [hp]
    rintro e _ ⟨rfl, rfl⟩
    go_wp2_with (first
      | (at_builtin; refine wpList_pushFrom rfl (.tmp 18) (.tmp 24) rfl w w.heap.size (.slice none 0 0) [] rfl (Ints.nil _ _) (Nat.le_refl _) g 0 i (i + 1) (L.take i) rfl htl hcl.out (by simp; omega) ?_; intro a1 cp1 w2 hi2 hg2'; have I2 : Hid (Ints w2 w.heap.size (.slice a1 i cp1) (L.take i)) := Lib.hid (by simpa using hi2); have W2 : Hid (Wrote (fun _ => False) w w2) := Lib.hid ⟨hg2'.os, hg2'.tape, hg2'.output, hg2'.size, fun k hk _ => hg2'.block k hk (by simp [Value.ownBlock])⟩; have S2 := Lib.hid (H.out.S.kept W2.out (fun h => h)); have d0 := S2.out.cell 0 rfl; have e0 := S2.out.free 0; have hz2 := W2.out.size; have hcl3 : Hid (∀ j, j < 0 → w2.cell? ⟨g, 0 + j, none⟩ = some (.int .i64 ((L.drop (i + 1)).getD j 0))) := Lib.hid (fun j hj => by have := HM0.out; omega); clear hi2 hg2')
      | (at_builtin; refine wpList_pushFrom rfl (.tmp 27) (.tmp 34) rfl w2 w.heap.size (.slice a1 i cp1) (L.take i) rfl I2.out hz2 g 0 0 0 (L.drop (i + 1)) rfl (by have := HM0.out; omega) hcl3.out (by omega) ?_; intro a2 cp2 w3 hi3' hg3; have I3 : Hid (Ints w3 w.heap.size (.slice a2 (i + 0) cp2) (L.take i ++ L.drop (i + 1))) := Lib.hid (by have hh := hi3'; rw [htl] at hh; exact hh); have W3 : Hid (Wrote (fun k => (Value.slice a1 i cp1).ownBlock = some k) w2 w3) := Lib.hid ⟨hg3.os, hg3.tape, hg3.output, hg3.size, fun k hk hp => hg3.block k hk (fun e => hp e.symm)⟩; have hnb : ¬ (Value.slice a1 i cp1).ownBlock = some b := (fun e => by have := (I2.out.lt b e).1; omega); have S3 := Lib.hid (S2.out.kept W3.out hnb); have k0 := S3.out.cell 0 rfl; have l0 := S3.out.free 0; clear hi3' hg3))
    go_returns
    refine ⟨rfl, _, Lib.hid ⟨S3.out.set 0 _, ?_, hbB, ?_⟩, ?_, ?_⟩
    · have I4 := Ints.wrote (p := fun k => k = b) I3.out (Wrote.set (fun k => k = b) w3 b 0 (.slice a2 (i + 0) cp2) rfl) (fun j hj e => by omega)
      exact ⟨I4.1, I4.2.imp (fun h => h) (fun ⟨g4, cap4, cur4, e1, e2, e3, e4⟩ => ⟨g4, cap4, cur4, e1, by have := H.out.hB; omega, e3, e4⟩)⟩
    · have := W3.out.size
      have := H.out.hB
      simp
      omega
    · have V2 : Wrote (fun k => k = b) w w2 := W2.out.mono (fun _ h => h.elim)
      have V3 : Wrote (fun k => k = b ∨ w.heap.size ≤ k) w w3 := (V2.mono (fun _ h => .inl h)).trans (W3.out.mono (fun k hk => .inr (I2.out.lt k hk).1))
      have V4 := V3.trans (Wrote.set (fun k => k = b ∨ w.heap.size ≤ k) w3 b 0 (.slice a2 (i + 0) cp2) (.inl rfl))
      exact ⟨V4.os, V4.tape, V4.output, V4.size, fun k hk hp => V4.block k hk (fun h => by rcases h with h | h; exact hp h; omega)⟩
    · intro k hk
      exact (I3.out.lt k hk).1
  · have hc2 : cap - (i + 1) ≠ 0 := by omega
    have hi3 : (i : Int) + 1 ≤ cap := by omega
    go_enter Try.func20, Try.ntmps20
    go_wp2_with fail
    refine (rplace b B _ L n id _ H.out hL).mono ?_
    rw [hp]
    rintro e _ ⟨rfl, rfl⟩
    go_wp2_with (first
      | (at_builtin; refine wpList_pushFrom rfl (.tmp 18) (.tmp 24) rfl w w.heap.size (.slice none 0 0) [] rfl (Ints.nil _ _) (Nat.le_refl _) g 0 i cap (L.take i) rfl htl hcl.out (by simp; omega) ?_; intro a1 cp1 w2 hi2 hg2'; have I2 : Hid (Ints w2 w.heap.size (.slice a1 i cp1) (L.take i)) := Lib.hid (by simpa using hi2); have W2 : Hid (Wrote (fun _ => False) w w2) := Lib.hid ⟨hg2'.os, hg2'.tape, hg2'.output, hg2'.size, fun k hk _ => hg2'.block k hk (by simp [Value.ownBlock])⟩; have S2 := Lib.hid (H.out.S.kept W2.out (fun h => h)); have d0 := S2.out.cell 0 rfl; have e0 := S2.out.free 0; have hz2 := W2.out.size; have hcl3 : Hid (∀ j, j < L.length - (i + 1) → w2.cell? ⟨g, i + 1 + j, none⟩ = some (.int .i64 ((L.drop (i + 1)).getD j 0))) := Lib.hid (fun j hj => (W2.out.block_cell hg2 (fun h => h)).trans (hcl2.out j hj)); clear hi2 hg2')
      | (at_builtin; refine wpList_pushFrom rfl (.tmp 27) (.tmp 34) rfl w2 w.heap.size (.slice a1 i cp1) (L.take i) rfl I2.out hz2 g (i + 1) (L.length - (i + 1)) (cap - (i + 1)) (L.drop (i + 1)) rfl (by omega) hcl3.out (by omega) ?_; intro a2 cp2 w3 hi3' hg3; have I3 : Hid (Ints w3 w.heap.size (.slice a2 (i + (L.length - (i + 1))) cp2) (L.take i ++ L.drop (i + 1))) := Lib.hid (by have hh := hi3'; rw [htl] at hh; exact hh); have W3 : Hid (Wrote (fun k => (Value.slice a1 i cp1).ownBlock = some k) w2 w3) := Lib.hid ⟨hg3.os, hg3.tape, hg3.output, hg3.size, fun k hk hp => hg3.block k hk (fun e => hp e.symm)⟩; have hnb : ¬ (Value.slice a1 i cp1).ownBlock = some b := (fun e => by have := (I2.out.lt b e).1; omega); have S3 := Lib.hid (S2.out.kept W3.out hnb); have k0 := S3.out.cell 0 rfl; have l0 := S3.out.free 0; clear hi3' hg3))
    go_returns
    refine ⟨rfl, _, Lib.hid ⟨S3.out.set 0 _, ?_, hbB, ?_⟩, ?_, ?_⟩
    · have I4 := Ints.wrote (p := fun k => k = b) I3.out (Wrote.set (fun k => k = b) w3 b 0 (.slice a2 (i + (L.length - (i + 1))) cp2) rfl) (fun j hj e => by omega)
      exact ⟨I4.1, I4.2.imp (fun h => h) (fun ⟨g4, cap4, cur4, e1, e2, e3, e4⟩ => ⟨g4, cap4, cur4, e1, by have := H.out.hB; omega, e3, e4⟩)⟩
    · have := W3.out.size
      have := H.out.hB
      simp
      omega
    · have V2 : Wrote (fun k => k = b) w w2 := W2.out.mono (fun _ h => h.elim)
      have V3 : Wrote (fun k => k = b ∨ w.heap.size ≤ k) w w3 := (V2.mono (fun _ h => .inl h)).trans (W3.out.mono (fun k hk => .inr (I2.out.lt k hk).1))
      have V4 := V3.trans (Wrote.set (fun k => k = b ∨ w.heap.size ≤ k) w3 b 0 (.slice a2 (i + (L.length - (i + 1))) cp2) (.inl rfl))
      exact ⟨V4.os, V4.tape, V4.output, V4.size, fun k hk hp => V4.block k hk (fun h => by rcases h with h | h; exact hp h; omega)⟩
    · intro k hk
      exact (I3.out.lt k hk).1

end Go.Proofs.Ytlcjgphibodjkaa
