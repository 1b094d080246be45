/-
  A ring of numbers, behind a mark: what each call does to it, and to nothing else.
-/
import Derived.Test.YtlcjgphibodjkaaRingAllI
import Derived.Test.YtlcjgphibodjkaaInts
namespace Go.Proofs.Ytlcjgphibodjkaa
open Go.RowKit

abbrev ivs (l : List Int) : List Value := l.map (Value.int .i64)
/-- A ring of numbers that lies in block r and, its row, in v. -/
def RI (w : World) (r room : Nat) (v : Value) (l : List Int) : Prop := ∃ B, ringI.Ring w r B room v (ivs l)
/-- What a call on it may do: it writes r and v; where the row lies then. -/
structure Stp (r : Nat) (v v' : Value) (w w' : World) : Prop where
  wr : Wrote (fun k => k = r ∨ sliceAt v k) w w'
  sub : ∀ k, sliceAt v' k → sliceAt v k ∨ w.heap.size ≤ k
theorem RI.lt {w : World} {r room : Nat} {v : Value} {l : List Int} (h : RI w r room v l) : r < w.heap.size ∧ ∀ k, sliceAt v k → k < w.heap.size ∧ r < k := by
  obtain ⟨B, h⟩ := h
  exact ⟨h.S.lt, fun k hk => ⟨(h.q.lt k hk).2, by have := (h.q.lt k hk).1; have := h.lt; omega⟩⟩
theorem RI.kept {w w' : World} {r room : Nat} {v : Value} {l : List Int} {p : Nat → Prop} (h : RI w r room v l) (k : Wrote p w w') (hr : ¬ p r) (hv : ∀ j, sliceAt v j → ¬ p j) : RI w' r room v l := by
  obtain ⟨B, h⟩ := h
  exact ⟨B, h.S.kept k hr, h.q.kept k hv, h.one, h.lt, Nat.le_trans h.hB k.size⟩
theorem RI.below {w w' : World} {r room : Nat} {v : Value} {l : List Int} (h : RI w r room v l) (k : Below w.heap.size w w') : RI w' r room v l :=
  h.kept (p := fun _ => False) (Wrote.ofBelow k _) (fun h => h) (fun _ _ h => h)
theorem inew (n : Nat) (w : World) (h1 : 1 ≤ n) (h2 : n ≤ 65536) : Calls Try.prog 26 #[.int .i64 n] w fun e w' => e = .returned (.pointer (some ⟨w.heap.size, 0, none⟩)) ∧ Below w.heap.size w w' ∧ Hid (RI w' w.heap.size n (.slice none 0 0) []) :=
  (ringI.new n w h1 h2).mono fun _ _ h => ⟨h.1, h.2.1, Lib.hid ⟨_, h.2.2⟩⟩
theorem iput (r room : Nat) (v : Value) (l : List Int) (y : Int) (w : World) (h : Hid (RI w r room v l)) (hf : l.length < room) (hr : room ≤ 65536) :
    Calls Try.prog 28 #[.pointer (some ⟨r, 0, none⟩), .int .i64 y] w fun e w' => e = .returned (.int .i64 0) ∧ ∃ v', Hid (RI w' r room v' (l ++ [y])) ∧ Hid (Stp r v v' w w') := by
  obtain ⟨B, hv⟩ := h.out
  exact (ringI.put r B room v (ivs l) y w hv (by simpa using hf) hr).mono fun _ _ ⟨he, v', k, q, s⟩ => ⟨he, v', Lib.hid ⟨B, by simpa [ivs] using q⟩, Lib.hid ⟨k, s⟩⟩
theorem iput_full (r room : Nat) (v : Value) (l : List Int) (y : Value) (w : World) (h : Hid (RI w r room v l)) (hf : room ≤ l.length) :
    Calls Try.prog 28 #[.pointer (some ⟨r, 0, none⟩), y] w fun e w' => e = .returned (.int .i64 6) ∧ Hid (RI w' r room v l) ∧ Wrote (fun _ => False) w w' := by
  obtain ⟨B, hv⟩ := h.out
  exact (ringI.put_full r B room v (ivs l) y w hv (by simpa using hf)).mono fun _ _ ⟨he, k⟩ => ⟨he, Lib.hid (h.out.kept k (fun h => h) (fun _ _ h => h)), k⟩
theorem itake (r room : Nat) (v : Value) (x : Int) (l : List Int) (w : World) (h : Hid (RI w r room v (x :: l))) :
    Calls Try.prog 30 #[.pointer (some ⟨r, 0, none⟩)] w fun e w' => e = .returned (.tuple #[.int .i64 x, .bool true]) ∧ ∃ v', Hid (RI w' r room v' l) ∧ Hid (Wrote (fun k => k = r ∨ sliceAt v k) w w' ∧ ∀ k, sliceAt v' k → sliceAt v k) := by
  obtain ⟨B, hv⟩ := h.out
  exact (ringI.take r B room v (.int .i64 x) (ivs l) w hv).mono fun _ _ ⟨he, v', k, q, s⟩ => ⟨he, v', Lib.hid ⟨B, q⟩, Lib.hid ⟨k, s⟩⟩
theorem itake_none (r room : Nat) (v : Value) (w : World) (h : Hid (RI w r room v [])) :
    Calls Try.prog 30 #[.pointer (some ⟨r, 0, none⟩)] w fun e w' => e = .returned (.tuple #[.int .i64 0, .bool false]) ∧ w = w' := by
  obtain ⟨B, hv⟩ := h.out
  exact ringI.take_none r B room v w hv
theorem ifirst (r room : Nat) (v : Value) (x : Int) (l : List Int) (w : World) (h : Hid (RI w r room v (x :: l))) :
    Calls Try.prog 32 #[.pointer (some ⟨r, 0, none⟩)] w fun e w' => e = .returned (.tuple #[.int .i64 x, .bool true]) ∧ w = w' := by
  obtain ⟨B, hv⟩ := h.out
  exact ringI.first r B room v (.int .i64 x) (ivs l) w hv
theorem ifirst_none (r room : Nat) (v : Value) (w : World) (h : Hid (RI w r room v [])) :
    Calls Try.prog 32 #[.pointer (some ⟨r, 0, none⟩)] w fun e w' => e = .returned (.tuple #[.int .i64 0, .bool false]) ∧ w = w' := by
  obtain ⟨B, hv⟩ := h.out
  exact ringI.first_none r B room v w hv
theorem ilen (r room : Nat) (v : Value) (l : List Int) (c : Int) (w : World) (h : Hid (RI w r room v l)) (hc : (l.length : Int) = c) :
    Calls Try.prog 35 #[.pointer (some ⟨r, 0, none⟩)] w fun e w' => e = .returned (.int .i64 c) ∧ w = w' := by
  subst hc
  obtain ⟨B, hv⟩ := h.out
  have := ringI.len r B room v (ivs l) w hv
  rw [List.length_map] at this
  exact this
theorem iall (r room : Nat) (v : Value) (l : List Int) (w : World) (h : Hid (RI w r room v l)) (hn : l.length ≤ 1000000) :
    Calls Try.prog 34 #[.pointer (some ⟨r, 0, none⟩)] w fun e w' => ∃ a c, e = .returned (.slice a l.length c) ∧ Hid (Ints w' w.heap.size (.slice a l.length c) l) ∧ Below w.heap.size w w' := by
  obtain ⟨B, hv⟩ := h.out
  refine (ringI.all r B room v (ivs l) w hv (by simpa using hn)).mono fun _ _ ⟨v', he, q⟩ => ?_
  have hi := q.own
  rw [List.length_map, Nat.div_one] at hi
  rcases hi.2 with ⟨rfl, h0⟩ | ⟨g, c, cur, rfl, _⟩
  · exact ⟨none, 0, by rw [he, h0], Lib.hid (by rw [h0]; unfold Ints; rw [h0]; rw [h0] at hi; exact hi), q.bel⟩
  · exact ⟨_, c, he, Lib.hid hi, q.bel⟩

end Go.Proofs.Ytlcjgphibodjkaa
