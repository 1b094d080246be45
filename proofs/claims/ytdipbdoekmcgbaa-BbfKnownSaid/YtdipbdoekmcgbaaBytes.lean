/-
  Blocks of bytes: what '[]byte(s)' lays, what 'string(b)' reads, a byte stored. No function of the program.
-/
import Derived.Test.YtdipbdoekmcgbaaBase
namespace Go.Proofs.Ytdipbdoekmcgbaa
open Go.RowKit

/-- A block whose first cells are these bytes, none of them frozen. -/
def IsBytes (w : World) (b : Nat) (l : List UInt8) : Prop := ∀ j (h : j < l.length), w.cell? ⟨b, j, none⟩ = some (.int .u8 (l[j].toNat : Int)) ∧ w.frozen? ⟨b, j, none⟩ = false

def bytesCap (w : World) (s : ByteArray) : Nat := grownCap w s.size 0 5
def bytesW (w : World) (s : ByteArray) : World :=
  w.drew.alloc (.cells (bytesRow s (grownCap w s.size 0 5)) 5 ((bytesRow s (grownCap w s.size 0 5)).size, (bytesRow s (grownCap w s.size 0 5)).size + 1))
theorem bytes_run (w : World) (s : ByteArray) : (convert 9 32 (.string s)).run Try.prog w = .ok (.slice (some ⟨w.heap.size, 0, none⟩) s.size (bytesCap w s)) (bytesW w s) :=
  run_bytes_of_string w 9 32 5 s Try.underlying9 Try.underlying32 Try.underlying5
theorem bytesW_size (w : World) (s : ByteArray) : (bytesW w s).heap.size = w.heap.size + 1 := by simp [bytesW]
theorem bytesW_below (w : World) (s : ByteArray) : Below w.heap.size w (bytesW w s) := ((Below.refl _ _).drew).alloc (Nat.le_refl _) _
theorem bytesW_is (w : World) (s : ByteArray) : IsBytes (bytesW w s) w.heap.size s.data.toList := by
  intro j h
  have hs : j < s.data.size := by simpa using h
  have hsz : s.data.size ≤ (bytesRow s (grownCap w s.size 0 5)).size := by rw [bytesRow, Array.size_append, Array.size_map]; omega
  constructor
  · have := World.cell?_alloc_mark w.drew (bytesRow s (grownCap w s.size 0 5)) 5 ((bytesRow s (grownCap w s.size 0 5)).size, (bytesRow s (grownCap w s.size 0 5)).size + 1) j
    rw [bytesRow_at s _ j hs] at this
    exact this
  · have := World.frozen?_alloc_mark w.drew (bytesRow s (grownCap w s.size 0 5)) 5 (bytesRow s (grownCap w s.size 0 5)).size ((bytesRow s (grownCap w s.size 0 5)).size + 1) j
    have e : decide ((bytesRow s (grownCap w s.size 0 5)).size ≤ j) = false := by
      rw [decide_eq_false_iff_not]
      omega
    rw [e] at this
    exact this
theorem string_run {w : World} {b : Nat} {l : List UInt8} (h : IsBytes w b l) (n c : Nat) (hn : l.length = n) : (convert 32 9 (.slice (some ⟨b, 0, none⟩) n c)).run Try.prog w = .ok (.string ⟨l.toArray⟩) w := by
  subst hn
  exact run_convert_bytes_back w 32 9 5 ⟨b, 0, none⟩ c l Try.underlying32 Try.underlying5 Try.underlying9 (fun j hj => by
    have e : (⟨b, 0, none⟩ : Addr).add j = ⟨b, j, none⟩ := by unfold Addr.add; split <;> simp_all
    rw [e]; exact (h j hj).1)
theorem IsBytes.set {w : World} {b : Nat} {l : List UInt8} (h : IsBytes w b l) (p : Nat) (hp : p < l.length) (m : UInt8) : IsBytes (w.setCell ⟨b, p, none⟩ (.int .u8 (m.toNat : Int))) b (l.set p m) := by
  intro j hj
  rw [List.length_set] at hj
  refine ⟨?_, by rw [World.frozen?_setCell]; exact (h j hj).2⟩
  by_cases e : p = j
  · subst e
    rw [World.cell?_setCell_same _ _ _ (h p hp).1]
    simp
  · have hne : (⟨b, p, none⟩ : Addr) ≠ ⟨b, j, none⟩ := fun x => e (by injection x)
    rw [World.cell?_setCell_other w ⟨b, p, none⟩ ⟨b, j, none⟩ _ hne, (h j hj).1]
    simp [e]
theorem IsBytes.other {w : World} {b : Nat} {l : List UInt8} (h : IsBytes w b l) (a : Addr) (ha : a.block ≠ b) (v : Value) : IsBytes (w.setCell a v) b l := by
  intro j hj
  exact ⟨by rw [World.cell?_setCell_other w a ⟨b, j, none⟩ v (fun e => ha (by rw [e]))]; exact (h j hj).1, by rw [World.frozen?_setCell]; exact (h j hj).2⟩
theorem IsBytes.drew {w : World} {b : Nat} {l : List UInt8} (h : IsBytes w b l) : IsBytes w.drew b l := h
theorem IsBytes.below {w w' : World} {b B : Nat} {l : List UInt8} (h : IsBytes w b l) (hb : Below B w w') (hB : b < B) : IsBytes w' b l := by
  intro j hj
  exact ⟨(hb.cell (p := ⟨b, j, none⟩) hB).trans (h j hj).1, (hb.frozen (p := ⟨b, j, none⟩) hB).trans (h j hj).2⟩
theorem extract_list (a : ByteArray) (n : Nat) : (a.extract 0 n).data.toList = a.data.toList.take n := by simp [ByteArray.data_extract]
theorem two_bytes (w : World) (s t : ByteArray) : IsBytes (bytesW (bytesW w s) t) w.heap.size s.data.toList ∧ IsBytes (bytesW (bytesW w s) t) (bytesW w s).heap.size t.data.toList ∧
    Below w.heap.size w (bytesW (bytesW w s) t) ∧ (bytesW (bytesW w s) t).heap.size = w.heap.size + 2 :=
  ⟨(bytesW_is w s).below (bytesW_below _ _) (by rw [bytesW_size]; omega), bytesW_is _ _, bthen (bytesW_below w s) (bytesW_below _ _), by rw [bytesW_size, bytesW_size]⟩
/-- The string of a list of bytes, by name. -/
theorem string_run_as {w : World} {b : Nat} {l : List UInt8} (h : IsBytes w b l) {n : Nat} (c : Nat) (hn : l.length = n) {S : ByteArray} (hS : S.data.toList = l) : (convert 32 9 (.slice (some ⟨b, 0, none⟩) n c)).run Try.prog w = .ok (.string S) w := by
  rw [string_run h n c hn, ← hS]
theorem bytes_as (l : List UInt8) : ∃ S : ByteArray, S.data.toList = l := ⟨⟨l.toArray⟩, rfl⟩
theorem bytes_as_size {S : ByteArray} {l : List UInt8} (h : S.data.toList = l) : S.size = l.length := by rw [← h, len_bytes]
theorem u8_info : (Try.prog.info? 5).map (fun i => (i.zero, i.size, i.bytes)) = some (some (.int .u8 0), 1, 1) := by kernel_rfl
def makeW (w : World) (n : Nat) : World := w.alloc (.cells (madeCells #[.int .u8 0] n) 5)
theorem make_run (w : World) (n : Nat) (hn : n ≤ 100000) : (Instr.makeSlice 32 (.int .i64 (n : Int)) (.int .i64 (n : Int))).run Try.prog w = .ok (.slice (some ⟨w.heap.size, 0, none⟩) n n) (makeW w n) := by
  obtain ⟨i0, hi, hz0, hz1, hz2⟩ := info_parts u8_info
  have h := run_make (P := Try.prog) w 32 5 i0 (.int .u8 0) Try.underlying32 hi hz0 .i64 .i64 (n : Int) (n : Int) (by omega) (Int.le_refl _) (by rw [hz2]; omega) (by omega)
  rw [h, hz1]
  simp only [Int.toNat_natCast, Nat.mul_one]
  rfl
theorem makeW_size (w : World) (n : Nat) : (makeW w n).heap.size = w.heap.size + 1 := by simp [makeW]
theorem makeW_below (w : World) (n : Nat) : Below w.heap.size w (makeW w n) := (Below.refl _ _).alloc (Nat.le_refl _) _
theorem madeCells_u8 (n j : Nat) (h : j < n) : (madeCells #[Value.int .u8 0] n)[j]? = some (.int .u8 0) := by
  unfold madeCells
  rw [Array.getElem?_map, Array.getElem?_eq_getElem (by simpa using h)]
  simp [Nat.mod_one]
theorem makeW_is (w : World) (n : Nat) : IsBytes (makeW w n) w.heap.size (List.replicate n 0) := by
  intro j h
  have hj : j < n := by simpa using h
  constructor
  · unfold makeW
    rw [World.cell?_alloc_new, madeCells_u8 n j hj]
    simp
  · unfold makeW
    rw [World.frozen?_alloc_new]
theorem conv_one (w : World) (n : Int) (c : Nat) : (convert 32 9 (.slice (some ⟨w.heap.size, 0, none⟩) 1 c)).run Try.prog (w.alloc (.cells #[.int .u8 n] 5)) = .ok (.string ⟨#[UInt8.ofNat n.toNat]⟩) (w.alloc (.cells #[.int .u8 n] 5)) := by
  rw [run_convert_bytes_string (P := Try.prog) _ 32 9 5 _ 1 c Try.underlying32 Try.underlying5 Try.underlying9]
  have hl := run_loadCells_list (P := Try.prog) (w.alloc (.cells #[.int .u8 n] 5)) ⟨w.heap.size, 0, none⟩ [.int .u8 n] (fun j v hj => by
    match j, hj with
    | 0, hj => simp at hj; subst hj; simp [Addr.add])
  exact run_bytesToString _ _ 1 c [n] hl
theorem push_fold : ∀ (ns : List Int) (r : ByteArray), ns.foldl (fun r n => r.push (UInt8.ofNat n.toNat)) r = r ++ ⟨(ns.map (fun n => UInt8.ofNat n.toNat)).toArray⟩
  | [], r => by apply ByteArray.ext; simp
  | n :: ns, r => by
    rw [List.foldl_cons, push_fold ns]
    apply ByteArray.ext
    simp
/-- The string of a row of bytes that was just laid. -/
theorem conv_list (w : World) (ns : List Int) (c : Nat) : (convert 32 9 (.slice (some ⟨w.heap.size, 0, none⟩) ns.length c)).run Try.prog (w.alloc (.cells (ns.map (Value.int .u8)).toArray 5)) = .ok (.string ⟨(ns.map (fun n => UInt8.ofNat n.toNat)).toArray⟩) (w.alloc (.cells (ns.map (Value.int .u8)).toArray 5)) := by
  rw [run_convert_bytes_string (P := Try.prog) _ 32 9 5 _ ns.length c Try.underlying32 Try.underlying5 Try.underlying9]
  have hl := run_loadCells_list (P := Try.prog) (w.alloc (.cells (ns.map (Value.int .u8)).toArray 5)) ⟨w.heap.size, 0, none⟩ (ns.map (Value.int .u8)) (fun j v hj => by
    rw [Addr.add_lit, Nat.zero_add, World.cell?_alloc_new]
    simpa using hj)
  rw [List.length_map] at hl
  rw [run_bytesToString _ _ ns.length c ns hl, push_fold]
  congr 2

end Go.Proofs.Ytdipbdoekmcgbaa
