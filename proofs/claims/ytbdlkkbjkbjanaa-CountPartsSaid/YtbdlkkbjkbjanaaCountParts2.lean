/-
  CountParts: the walk.
-/
import Derived.Test.YtbdlkkbjkbjanaaCountParts
namespace Go.Proofs.Ytbdlkkbjkbjanaa
open Go.RowKit

/-- 'append(v, u...)': u a slice that the call made, or nil. -/
theorem wpList_pushAny {ops : Array Oper} {rest : List Oper} {o : Oper} {a : Act} {Q : Exit → Act → World → Prop} (hgd : o.guard = none) (s x : Operand)
    (ho : o.op = .call { callee := .builtin .append, args := #[s, x], argTypes := #[22, 22] }) (w0 : World) (B : Nat) (v : Value) (xs : List Int)
    (hs : a.eval s = v) (hown : Ints w0 B v xs) (hB : B ≤ w0.heap.size) (B2 : Nat) (u : Value) (ys : List Int) (hx : a.eval x = u) (hy : Ints w0 B2 u ys) (hnil : ys = [] → u = .slice none 0 0) (hlen : xs.length + ys.length ≤ 1000000)
    (h : ∀ v' w', Ints w' B v' (xs ++ ys) → w0.grownBy w' v.ownBlock → wpList Try.prog ops Q rest (a.put o.dst v') w') :
    wpList Try.prog ops Q (o :: rest) a w0 := by
  by_cases hy0 : ys = []
  · subst hy0
    obtain rfl := hnil rfl
    obtain ⟨i0, hi, hz0, hz1, hz2⟩ := info_parts int_info
    refine wpList_append_own_none hgd s x 22 ho B 3 i0 1 Try.underlying22 hi v xs.length (xs.map (Value.int .i64)) hs hown hx ?_
    refine h v w0 (by rw [List.append_nil]; exact hown) ⟨rfl, rfl, rfl, Nat.le_refl _, fun _ _ _ => rfl⟩
  · have hp : 0 < ys.length := by cases ys with | nil => exact absurd rfl hy0 | cons _ _ => simp
    rcases hy.2 with ⟨_, h0⟩ | ⟨g2, c, cur, hv, _⟩
    · simp at h0; exact absurd h0 hy0
    · subst hv
      exact wpList_pushAll hgd s x ho w0 B v xs xs.length rfl hs hown hB B2 g2 ys.length c ys hx hy hp hlen (fun g cap w' h1 h2 _ => h _ w' h1 h2)
theorem Ints.alloc0 (w : World) : Ints (w.alloc (.cells #[] 3)) w.heap.size (.slice (some ⟨w.heap.size, 0, none⟩) 0 0) [] :=
  World.ownsRow_lit w #[] 0 (Nat.le_refl _) (by decide) rfl

/-- A slice whose block lies below m is not touched by what writes at m and above. -/
theorem apart_kept {w w' : World} {B m : Nat} {v : Value} {xs : List Int} (h : Ints w B v xs) (hg : w.grownBy w' (some m)) (hm : ∀ j, v.ownBlock = some j → j < m) : Ints w' B v xs :=
  h.kept hg (by
    cases hv : v.ownBlock with
    | none => exact .inl rfl
    | some j => right; intro e; injection e with e; have := hm j hv; omega)

theorem apart_kept2 {w w' : World} {B B4 : Nat} {v v4 : Value} {xs zs : List Int} (h : Ints w B v xs) (h4 : Ints w B4 v4 zs) (hg : w.grownBy w' v4.ownBlock) (hm : ∀ j, v.ownBlock = some j → j < B4) : Ints w' B v xs :=
  h.kept hg (by
    cases hv : v.ownBlock with
    | none => exact .inl rfl
    | some j => right; intro e; have := hm j hv; have := (h4.lt j e.symm).1; omega)

theorem two_wf {n m : Int} (b1 : 0 ≤ n) (b2 : n ≤ 9223372036854775807) (b3 : 0 ≤ m) (b4 : m ≤ 9223372036854775807) : ∀ x ∈ [n, m], -9223372036854775808 ≤ x ∧ x ≤ 9223372036854775807 := by
  intro x hx
  rcases List.mem_cons.1 hx with rfl | hx
  · omega
  · obtain rfl : x = m := by simpa using hx
    omega
/-- The three slices, in a world grown out of w0. -/
structure Three (w0 w : World) (B1 B2 B3 : Nat) (v1 v2 v3 : Value) (xs ys : List Int) : Prop where
  bel : Below w0.heap.size w0 w
  i1 : Ints w B1 v1 xs
  i2 : Ints w B2 v2 ys
  i3 : Ints w B3 v3 (xs ++ ys)

set_option maxRecDepth 100000 in
set_option maxHeartbeats 400000 in
theorem countParts_walk (a0 : Option Addr) (len0 cap0 : Nat) (z0 : List Int) (a1 : Option Addr) (len1 cap1 : Nat) (z1 : List Int) (w : World) (hr0 : IsRow .u64 w a0 len0 cap0 z0) (hr1 : IsRow .u64 w a1 len1 cap1 z1) :
    Calls Try.prog 12 #[.slice a0 len0 cap0, .slice a1 len1 cap1] w fun e w' => e = .returned (.bool true) ∧ Below w.heap.size w w' := by
  go_enter Try.func12, Try.ntmps12
  go_wp2_with fail
  refine (works04 _).mono ?_
  rintro e w1 ⟨rfl, q1⟩
  go_wp2_with fail
  refine (cplain w _ _ _ _ _ hr0 q1).mono ?_
  rintro e w2 ⟨v1, xs, rfl, p1⟩
  have q2 := bthen q1 p1.bel
  go_wp2_with fail
  refine (cplain w _ _ _ _ _ hr1 q2).mono ?_
  rintro e w3 ⟨v2, ys, rfl, p2⟩
  have q3 := bthen q2 p2.bel
  go_upto_region 4 with fail
  go_cut [7] (fun v wc => Hid (Three w wc w1.heap.size w2.heap.size w3.heap.size v1 v2 v xs ys))
  case first =>
    have HI1 := Lib.hid ((p1.i.below p2.bel).alloc (.cells #[] 3))
    have HI2 := Lib.hid (p2.i.alloc (.cells #[] 3))
    have HI3 := Lib.hid (Ints.alloc0 w3)
    have HN1 := Lib.hid p1.nil
    have HN2 := Lib.hid p2.nil
    have hl1 := p1.len
    have hl2 := p2.len
    have HB := Lib.hid (q3.alloc q3.size (.cells #[] 3))
    have h12 : w1.heap.size ≤ w2.heap.size := p1.bel.size
    have h23 : w2.heap.size ≤ w3.heap.size := p2.bel.size
    have hlt1 : Hid (∀ j, v1.ownBlock = some j → j < w3.heap.size) := Lib.hid (fun j hj => ((p1.i.below p2.bel).lt j hj).2)
    have hlt2 : Hid (∀ j, v2.ownBlock = some j → j < w3.heap.size) := Lib.hid (fun j hj => (p2.i.lt j hj).2)
    have hw3 : w.heap.size ≤ w3.heap.size := q3.size
    obtain ⟨w3a, hw3a⟩ : ∃ w3a, w3a = w3.alloc (.cells #[] 3) := ⟨_, rfl⟩
    have hsz : w3.heap.size ≤ w3a.heap.size := by rw [hw3a]; simp
    have HWA := Lib.hid hw3a
    rw [← hw3a] at HI1 HI2 HI3 HB
    clear hw3a p1 p2 q1 q2 q3
    obtain ⟨B3, hB3⟩ : ∃ B3, B3 = w3.heap.size := ⟨_, rfl⟩
    go_wp2_with (first
      | (at_builtin; rw [← HWA.out]; refine wpList_pushAny rfl (.tmp 24) (.tmp 25) rfl w3a w3.heap.size _ [] rfl HI3.out hsz _ v1 xs rfl HI1.out HN1.out (by simp; omega) ?_; intro v4 w4 hi4 hg4; have hs4 := hg4.size; have HI4 := Lib.hid hi4; have HG4 := Lib.hid hg4; clear hi4 hg4)
      | (at_builtin; refine wpList_pushAny rfl (.tmp 26) (.tmp 27) rfl w4 w3.heap.size _ _ rfl HI4.out (by omega) _ v2 ys rfl (apart_kept HI2.out HG4.out hlt2.out) HN2.out (by simp; omega) ?_; intro v5 w5 hi5 hg5; have hs5 := hg5.size; have HI5 := Lib.hid hi5; have HG5 := Lib.hid hg5; clear hi5 hg5))
    have k1 := apart_kept HI1.out HG4.out hlt1.out
    have k2 := apart_kept HI2.out HG4.out hlt2.out
    go_meet
    case rel =>
      have b4 : Below w.heap.size w w4 := HB.out.grown HG4.out HB.out.size (fun j hj => by cases hj; exact hw3)
      exact Lib.hid ⟨b4.grown HG5.out b4.size (fun j hj => Nat.le_trans hw3 (HI4.out.lt j hj).1), apart_kept2 k1 HI4.out HG5.out hlt1.out, apart_kept2 k2 HI4.out HG5.out hlt2.out, HI5.out⟩
  case rest =>
    have HR1 := Lib.hid p1.rng
    have HR2 := Lib.hid p2.rng
    have hl1 := p1.len
    have hl2 := p2.len
    clear p1 p2 q1 q2 q3 hr0 hr1
    have wf1 : ∀ x ∈ xs, -9223372036854775808 ≤ x ∧ x ≤ 9223372036854775807 := fun x hx => ⟨by have := (HR1.out x hx).1; omega, (HR1.out x hx).2⟩
    have wf2 : ∀ x ∈ ys, -9223372036854775808 ≤ x ∧ x ≤ 9223372036854775807 := fun x hx => ⟨by have := (HR2.out x hx).1; omega, (HR2.out x hx).2⟩
    have wf3 : ∀ x ∈ xs ++ ys, -9223372036854775808 ≤ x ∧ x ≤ 9223372036854775807 := fun x hx => (List.mem_append.1 hx).elim (wf1 x) (wf2 x)
    obtain ⟨a6, cap6, rfl, s1⟩ := hcut.out.i1.srow (by unfold maxLen; omega) wf1
    obtain ⟨a7, cap7, rfl, s2⟩ := hcut.out.i2.srow (by unfold maxLen; omega) wf2
    obtain ⟨a8, cap8, rfl, s3⟩ := hcut.out.i3.srow (by rw [List.length_append]; unfold maxLen; omega) wf3
    have hb := Lib.hid hcut.out.bel
    have LS := Lib.hid (sums_law HR1.out HR2.out)
    have LT := Lib.hid (times_law HR1.out HR2.out)
    clear hcut wf1 wf2 wf3
    generalize hn1 : xs.length = n1 at *
    generalize hn2 : ys.length = n2 at *
    generalize hn3 : (xs ++ ys).length = n3 at *
    go_wp2_with fail
    refine (csum _ _ _ _ _ s1).mono ?_
    rintro e _ ⟨rfl, rfl⟩
    go_wp2_with fail
    refine (csum _ _ _ _ _ s2).mono ?_
    rintro e _ ⟨rfl, rfl⟩
    go_wp2_with fail
    refine (csum _ _ _ _ _ s3).mono ?_
    rintro e _ ⟨rfl, rfl⟩
    rcases LS.out with ⟨n, m, e1, e2, b1, b2, b3, b4, e3⟩ | ⟨k, e1, e2⟩ | ⟨n, k, e1, e2, e3⟩
    · rw [e1, e2]
      obtain ⟨r, hr⟩ : ∃ r, r = sumA (xs ++ ys) := ⟨_, rfl⟩
      rw [← hr] at e3 ⊢
      have hw := two_wf b1 b2 b3 b4
      have E3 := Lib.hid e3
      clear e1 e2 e3 hr
      go_wp2_with fail
      refine (csum _ _ _ [n, m] _ (SRow.made wc [n, m] 3 (by simp [maxLen]) hw)).mono ?_
      rw [E3.out]
      rintro e _ ⟨rfl, rfl⟩
      have hb2 := Lib.hid (Wrote.below hb.out (Wrote.alloc (fun _ => False) wc (.cells ([n, m].map (Value.int .i64)).toArray 3)) (fun _ hi => hi.elim))
      have t1 := s1.kept (Wrote.alloc (fun _ => False) wc (.cells ([n, m].map (Value.int .i64)).toArray 3))
      have t2 := s2.kept (Wrote.alloc (fun _ => False) wc (.cells ([n, m].map (Value.int .i64)).toArray 3))
      have t3 := s3.kept (Wrote.alloc (fun _ => False) wc (.cells ([n, m].map (Value.int .i64)).toArray 3))
      clear s1 s2 s3 hb LS
      go_wp2_with fail
      refine (ctimes _ _ _ _ _ t1).mono ?_
      rintro e w4 ⟨rfl, k4⟩
      have u2 := t2.kept k4
      have u3 := t3.kept k4
      have hb4 := Lib.hid (Wrote.below hb2.out k4 (fun _ hi => hi.elim))
      clear t1 t2 t3 k4 hb2
      go_wp2_with fail
      refine (ctimes _ _ _ _ _ u2).mono ?_
      rintro e w5 ⟨rfl, k5⟩
      have v3 := u3.kept k5
      have hb5 := Lib.hid (Wrote.below hb4.out k5 (fun _ hi => hi.elim))
      clear u2 u3 k5 hb4
      go_wp2_with fail
      refine (ctimes _ _ _ _ _ v3).mono ?_
      rintro e w6 ⟨rfl, k6⟩
      have hb6 := Lib.hid (Wrote.below hb5.out k6 (fun _ hi => hi.elim))
      clear v3 k6 hb5
      rcases LT.out with ⟨n', m', e1, e2, b1, b2, b3, b4, e3⟩ | ⟨e3, ⟨k, e1⟩ | ⟨n', k, e1, e2⟩⟩
      · rw [e1, e2]
        obtain ⟨r', hr⟩ : ∃ r, r = timesA (xs ++ ys) := ⟨_, rfl⟩
        rw [← hr] at e3 ⊢
        have hw := two_wf b1 b2 b3 b4
        have E3 := Lib.hid e3
        clear e1 e2 e3 hr
        go_wp2_with fail
        refine (ctimes _ _ _ [n', m'] _ (SRow.made w6 [n', m'] 3 (by simp [maxLen]) hw)).mono ?_
        rw [E3.out]
        rintro e w7 ⟨rfl, k7⟩
        have hb7 := Lib.hid (Wrote.below hb6.out ((Wrote.alloc (fun _ => False) w6 _).trans k7) (fun _ hi => hi.elim))
        go_wp2_with fail
        go_returns
        exact ⟨by simp, hb7.out⟩
      · rcases e3 with e3 | e3
        all_goals
          rw [e1, e3]
          clear e1 e3
          go_wp2_with fail
          go_returns
          exact ⟨rfl, hb6.out⟩
      · rcases e3 with e3 | e3
        all_goals
          rw [e1, e2, e3]
          clear e1 e2 e3
          go_wp2_with fail
          go_returns
          exact ⟨rfl, hb6.out⟩
    · rw [e1, e2]
      clear e1 e2
      have hb2 := Lib.hid (Wrote.below hb.out (Wrote.refl (fun _ => False) wc) (fun _ hi => hi.elim))
      have t1 := s1.kept (Wrote.refl (fun _ => False) wc)
      have t2 := s2.kept (Wrote.refl (fun _ => False) wc)
      have t3 := s3.kept (Wrote.refl (fun _ => False) wc)
      clear s1 s2 s3 hb LS
      go_wp2_with fail
      refine (ctimes _ _ _ _ _ t1).mono ?_
      rintro e w4 ⟨rfl, k4⟩
      have u2 := t2.kept k4
      have u3 := t3.kept k4
      have hb4 := Lib.hid (Wrote.below hb2.out k4 (fun _ hi => hi.elim))
      clear t1 t2 t3 k4 hb2
      go_wp2_with fail
      refine (ctimes _ _ _ _ _ u2).mono ?_
      rintro e w5 ⟨rfl, k5⟩
      have v3 := u3.kept k5
      have hb5 := Lib.hid (Wrote.below hb4.out k5 (fun _ hi => hi.elim))
      clear u2 u3 k5 hb4
      go_wp2_with fail
      refine (ctimes _ _ _ _ _ v3).mono ?_
      rintro e w6 ⟨rfl, k6⟩
      have hb6 := Lib.hid (Wrote.below hb5.out k6 (fun _ hi => hi.elim))
      clear v3 k6 hb5
      rcases LT.out with ⟨n', m', e1, e2, b1, b2, b3, b4, e3⟩ | ⟨e3, ⟨k, e1⟩ | ⟨n', k, e1, e2⟩⟩
      · rw [e1, e2]
        obtain ⟨r', hr⟩ : ∃ r, r = timesA (xs ++ ys) := ⟨_, rfl⟩
        rw [← hr] at e3 ⊢
        have hw := two_wf b1 b2 b3 b4
        have E3 := Lib.hid e3
        clear e1 e2 e3 hr
        go_wp2_with fail
        refine (ctimes _ _ _ [n', m'] _ (SRow.made w6 [n', m'] 3 (by simp [maxLen]) hw)).mono ?_
        rw [E3.out]
        rintro e w7 ⟨rfl, k7⟩
        have hb7 := Lib.hid (Wrote.below hb6.out ((Wrote.alloc (fun _ => False) w6 _).trans k7) (fun _ hi => hi.elim))
        go_wp2_with fail
        go_returns
        exact ⟨by simp, hb7.out⟩
      · rcases e3 with e3 | e3
        all_goals
          rw [e1, e3]
          clear e1 e3
          go_wp2_with fail
          go_returns
          exact ⟨rfl, hb6.out⟩
      · rcases e3 with e3 | e3
        all_goals
          rw [e1, e2, e3]
          clear e1 e2 e3
          go_wp2_with fail
          go_returns
          exact ⟨rfl, hb6.out⟩
    · rw [e1, e2, e3]
      clear e1 e2 e3
      have hb2 := Lib.hid (Wrote.below hb.out (Wrote.refl (fun _ => False) wc) (fun _ hi => hi.elim))
      have t1 := s1.kept (Wrote.refl (fun _ => False) wc)
      have t2 := s2.kept (Wrote.refl (fun _ => False) wc)
      have t3 := s3.kept (Wrote.refl (fun _ => False) wc)
      clear s1 s2 s3 hb LS
      go_wp2_with fail
      refine (ctimes _ _ _ _ _ t1).mono ?_
      rintro e w4 ⟨rfl, k4⟩
      have u2 := t2.kept k4
      have u3 := t3.kept k4
      have hb4 := Lib.hid (Wrote.below hb2.out k4 (fun _ hi => hi.elim))
      clear t1 t2 t3 k4 hb2
      go_wp2_with fail
      refine (ctimes _ _ _ _ _ u2).mono ?_
      rintro e w5 ⟨rfl, k5⟩
      have v3 := u3.kept k5
      have hb5 := Lib.hid (Wrote.below hb4.out k5 (fun _ hi => hi.elim))
      clear u2 u3 k5 hb4
      go_wp2_with fail
      refine (ctimes _ _ _ _ _ v3).mono ?_
      rintro e w6 ⟨rfl, k6⟩
      have hb6 := Lib.hid (Wrote.below hb5.out k6 (fun _ hi => hi.elim))
      clear v3 k6 hb5
      rcases LT.out with ⟨n', m', e1, e2, b1, b2, b3, b4, e3⟩ | ⟨e3, ⟨k, e1⟩ | ⟨n', k, e1, e2⟩⟩
      · rw [e1, e2]
        obtain ⟨r', hr⟩ : ∃ r, r = timesA (xs ++ ys) := ⟨_, rfl⟩
        rw [← hr] at e3 ⊢
        have hw := two_wf b1 b2 b3 b4
        have E3 := Lib.hid e3
        clear e1 e2 e3 hr
        go_wp2_with fail
        refine (ctimes _ _ _ [n', m'] _ (SRow.made w6 [n', m'] 3 (by simp [maxLen]) hw)).mono ?_
        rw [E3.out]
        rintro e w7 ⟨rfl, k7⟩
        have hb7 := Lib.hid (Wrote.below hb6.out ((Wrote.alloc (fun _ => False) w6 _).trans k7) (fun _ hi => hi.elim))
        go_wp2_with fail
        go_returns
        exact ⟨by simp, hb7.out⟩
      · rcases e3 with e3 | e3
        all_goals
          rw [e1, e3]
          clear e1 e3
          go_wp2_with fail
          go_returns
          exact ⟨rfl, hb6.out⟩
      · rcases e3 with e3 | e3
        all_goals
          rw [e1, e2, e3]
          clear e1 e2 e3
          go_wp2_with fail
          go_returns
          exact ⟨rfl, hb6.out⟩

end Go.Proofs.Ytbdlkkbjkbjanaa
