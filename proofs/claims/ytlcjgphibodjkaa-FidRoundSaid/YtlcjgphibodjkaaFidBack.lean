/-
  FidBack: the walk.
-/
import Derived.Test.YtlcjgphibodjkaaFidKnown
import Derived.Test.YtlcjgphibodjkaaHeld
import Derived.OpenShut
namespace Go.Proofs.Ytlcjgphibodjkaa
open Go.RowKit

abbrev TA : Nat := 47
/-- An array of bools in a block of its own. -/
def IsArr (w : World) (c : Nat) (gs : List Bool) : Prop := gs.length = 256 ∧ w.heap[c]? = some (.cells (gs.map Value.bool).toArray TA (0, 0))
theorem IsArr.lt {w : World} {b : Nat} {us : List Bool} (h : IsArr w b us) : b < w.heap.size := lt_of_block h.2
theorem IsArr.cell {w : World} {b : Nat} {us : List Bool} (h : IsArr w b us) (i : Nat) (hi : i < 256) : w.cell? ⟨b, i, none⟩ = some (.bool (us.getD i false)) := by
  obtain ⟨hl, h⟩ := h
  have h1 : (us.map Value.bool)[i]? = some (.bool (us.getD i false)) := by
    rw [List.getElem?_map, List.getD_eq_getElem?_getD, List.getElem?_eq_getElem (by omega)]
    rfl
  simp [World.cell?, h]
  simpa using h1
theorem IsArr.free {w : World} {b : Nat} {us : List Bool} (h : IsArr w b us) (o : Nat) : w.frozen? ⟨b, o, none⟩ = false := by
  have h := h.2
  simp [World.frozen?, h]
theorem IsArr.set {w : World} {b : Nat} {us : List Bool} (h : IsArr w b us) (i : Nat) (x : Bool) : IsArr (w.setCell ⟨b, i, none⟩ (.bool x)) b (us.set i x) := by
  have hlt := h.lt
  obtain ⟨hl, h⟩ := h
  refine ⟨by simpa using hl, ?_⟩
  have h' : w.heap[b] = .cells (us.map Value.bool).toArray TA (0, 0) := by simpa [Array.getElem?_eq_getElem hlt] using h
  show (w.heap.modify b _)[b]? = _
  rw [Array.getElem?_eq_getElem (by simpa using hlt), Array.getElem_modify_self, h']
  simp
theorem IsArr.grown {w w' : World} {b c : Nat} {us : List Bool} (h : IsArr w b us) (hg : w.grownBy w' (some c)) (hne : b ≠ c) : IsArr w' b us :=
  ⟨h.1, (hg.block b h.lt (fun e => hne (by injection e))).trans h.2⟩
theorem zeroA (w : World) : (zeroValue TA).run Try.prog w = .ok (.agg ((List.replicate 256 false).map Value.bool).toArray) w := by kernel_rfl

/-- A pool, and an array that was made behind it. -/
structure PoolArr (w0 w : World) (b c : Nat) (us : List Bool) (n : Nat) (gs : List Bool) : Prop where
  p : IsPool w b us n
  a : IsArr w c gs
  bel : Below w0.heap.size w0 w
  le : w0.heap.size ≤ b
  lt : b < c
theorem PoolArr.drew {w0 w : World} {b c : Nat} {us gs : List Bool} {n : Nat} (h : PoolArr w0 w b c us n gs) : PoolArr w0 w.drew b c us n gs := ⟨h.p, h.a, h.bel.drew, h.le, h.lt⟩
theorem PoolArr.set {w0 w : World} {b c : Nat} {us gs : List Bool} {n : Nat} (h : PoolArr w0 w b c us n gs) (i : Nat) (x : Bool) : PoolArr w0 (w.setCell ⟨c, i, none⟩ (.bool x)) b c us n (gs.set i x) :=
  ⟨h.p.grown (setCell_grown w c i (.bool x)) (by have := h.lt; omega), h.a.set i x, own_grown h.bel (setCell_grown w c i (.bool x)) (by have := h.lt; have := h.le; omega), h.le, h.lt⟩
theorem PoolArr.made {w0 w : World} {b : Nat} {us : List Bool} {n : Nat} (h : PoolIn w0 w b us n) : PoolArr w0 (w.alloc (.cells ((List.replicate 256 false).map Value.bool).toArray TA)) b w.heap.size us n (pl fun _ => false) :=
  ⟨h.p.alloc _, ⟨pl_length _, by rw [← pl_rep]; exact heap_alloc_new w _⟩, h.bel.alloc h.bel.size _, h.le, h.p.lt⟩
theorem atk (w0 : World) (b c : Nat) (us us' gs : List Bool) (n n' : Nat) (v : Int) (w : World) (h : Hid (PoolArr w0 w b c us n gs)) (hn : n < 256) (hv : takeV us n = v) (hu : us.set n true = us') (hN : takeN us n = n') :
    Calls Try.prog 25 #[.pointer (some ⟨b, 0, none⟩)] w fun e w' => e = .returned (.int .i64 v) ∧ Hid (PoolArr w0 w' b c us' n' gs) := by
  subst hv hu hN
  refine (ftk0 b us n w h.out.p hn).mono ?_
  rintro e w' ⟨rfl, g, p⟩
  exact ⟨rfl, Lib.hid ⟨p, h.out.a.grown g (by have := h.out.lt; omega), own_grown h.out.bel g h.out.le, h.out.le, h.out.lt⟩⟩
theorem afr (w0 : World) (b c : Nat) (us us' gs : List Bool) (n : Nat) (i v : Int) (w : World) (h : Hid (PoolArr w0 w b c us n gs)) (hv : freeE us i = v) (hu : freeU us i = us') :
    Calls Try.prog 19 #[.pointer (some ⟨b, 0, none⟩), .int .i64 i] w fun e w' => e = .returned (.int .i64 v) ∧ Hid (PoolArr w0 w' b c us' n gs) := by
  subst hv hu
  refine (ffree b us n i w h.out.p).mono ?_
  rintro e w' ⟨rfl, g, p⟩
  exact ⟨rfl, Lib.hid ⟨p, h.out.a.grown g (by have := h.out.lt; omega), own_grown h.out.bel g h.out.le, h.out.le, h.out.lt⟩⟩
theorem aus (w0 : World) (b c : Nat) (us gs : List Bool) (n : Nat) (k : Int) (w : World) (h : Hid (PoolArr w0 w b c us n gs)) (hc : (us.countP id : Int) = k) :
    Calls Try.prog 23 #[.pointer (some ⟨b, 0, none⟩)] w fun e w' => e = .returned (.int .i64 k) ∧ w = w' := by
  subst hc
  exact fused b us n w h.out.p
theorem freeE_nat (p : Nat → Bool) {i : Nat} (hi : i < 256) : freeE (pl p) i = if p i then 0 else 5 := by
  unfold freeE
  rw [if_neg (by omega), Int.toNat_natCast, pl_get _ hi]
theorem freeU_nat (p : Nat → Bool) {i : Nat} (hi : i < 256) : freeU (pl p) i = (pl p).set i false := by
  unfold freeU
  rw [if_neg (by omega), Int.toNat_natCast]
theorem count_clear (p : Nat → Bool) {i : Nat} (hi : i < 256) (h : p i = true) : (((pl p).set i false).countP id : Int) = (pl p).countP id - 1 ∧ 1 ≤ (pl p).countP id := by
  have hg := pl_get p hi
  have hl := pl_length p
  rw [List.getD_eq_getElem?_getD, List.getElem?_eq_getElem (by omega)] at hg
  have hg' : (pl p)[i]'(by omega) = true := by simpa [h] using hg
  have h1 : 0 < (pl p).countP id := List.countP_pos_iff.2 ⟨true, by rw [← hg']; exact List.getElem_mem _, rfl⟩
  rw [List.countP_set (by omega), hg', show (if id true = true then 1 else 0) = 1 from rfl, show (if id false = true then 1 else 0) = 0 from rfl]
  omega
theorem count_set (p : Nat → Bool) {i : Nat} (hi : i < 256) (h : p i = false) : (((pl p).set i true).countP id : Int) = (pl p).countP id + 1 := by
  have hg := pl_get p hi
  have hl := pl_length p
  rw [List.getD_eq_getElem?_getD, List.getElem?_eq_getElem (by omega)] at hg
  have hg' : (pl p)[i]'(by omega) = false := by simpa [h] using hg
  rw [List.countP_set (by omega), hg', show (if id true = true then 1 else 0) = 1 from rfl, show (if id false = true then 1 else 0) = 0 from rfl]
  omega

/-- In use, as long as those g are gone. -/
def inUse (m : Nat) (g : Nat → Bool) : List Bool := pl (fun j => decide (j < m) && !g j)
def mark (g : Nat → Bool) (i : Nat) : Nat → Bool := fun j => if j = i then true else g j
theorem inUse_mark (m i : Nat) (g : Nat → Bool) : (inUse m g).set i false = inUse m (mark g i) := by
  unfold inUse mark
  rw [pl_set]
  refine pl_congr fun j _ => ?_
  by_cases h : j = i <;> simp [h]
theorem inUse_at {m i : Nat} (g : Nat → Bool) (hi : i < m) (hm : m ≤ 256) : (inUse m g).getD i false = !g i := by
  unfold inUse
  rw [pl_get _ (by omega)]
  simp [hi]

/-- Those g, and all ahead of i. -/
def gg (g : Nat → Bool) (i : Nat) : Nat → Bool := fun j => g j || decide (j < i)
theorem gg_zero (g : Nat → Bool) : gg g 0 = g := by funext j; simp [gg]
theorem inUse_gg (m i : Nat) (g : Nat → Bool) : (inUse m (gg g i)).set i false = inUse m (gg g (i + 1)) := by
  unfold inUse gg
  rw [pl_set]
  refine pl_congr fun j _ => ?_
  by_cases h : j = i
  · subst h; simp
  · rw [if_neg h, show decide (j < i) = decide (j < i + 1) from decide_eq_decide.2 (by omega)]
theorem inUse_all (m : Nat) (g : Nat → Bool) : inUse m (gg g m) = pl (fun _ => false) := by
  unfold inUse gg
  refine pl_congr fun j _ => ?_
  by_cases h : j < m <;> simp [h]
theorem freeE_use {m i : Nat} (g : Nat → Bool) (hi : i < m) (hm : m ≤ 256) : freeE (inUse m g) i = if g i then 5 else 0 := by
  unfold freeE
  rw [if_neg (by omega), Int.toNat_natCast, inUse_at g hi hm]
  cases g i <;> rfl
theorem freeU_use {m i : Nat} (g : Nat → Bool) (hi : i < m) (hm : m ≤ 256) : freeU (inUse m g) i = (inUse m g).set i false := by
  unfold freeU
  rw [if_neg (by omega), Int.toNat_natCast]

set_option maxRecDepth 100000 in
set_option maxHeartbeats 1000000 in
theorem fidBack_walk (n : Int) (hn1 : 0 ≤ n) (hn2 : n ≤ 255) (a1 : Option Addr) (len1 cap1 : Nat) (z1 : List Int) (w : World) (hr0 : IsRow .u8 w a1 len1 cap1 z1) :
    Calls Try.prog 6 #[.int .u8 n, .slice a1 len1 cap1] w fun e w' => e = .returned (.bool true) ∧ Below w.heap.size w w' := by
  have hlen := hr0.len_le.2
  unfold maxLen at hlen
  obtain ⟨m, hm⟩ : ∃ m : Nat, (m : Int) = 1 + n := ⟨(1 + n).toNat, by omega⟩
  have hm1 : 1 ≤ m := by omega
  have hm2 : m ≤ 256 := by omega
  have hm3 : 1 + n = m := by omega
  clear hm
  go_enter Try.func6, Try.ntmps6
  go_wp2_with fail
  refine (works12 _).mono ?_
  rintro e w1 ⟨rfl, q1⟩
  go_wp2_with fail
  refine (fnw _).mono ?_
  rintro e w2 ⟨rfl, h2⟩
  obtain ⟨b, hb⟩ : ∃ b, b = w1.heap.size := ⟨_, rfl⟩
  have h3 : Hid (PoolIn w w2 b (up 0) 0) := by
    rw [hb, ← up_zero]
    exact Lib.hid ⟨h2.out.p, bthen q1 h2.out.bel, by exact q1.size⟩
  rw [← hb]
  clear hb h2 q1
  obtain ⟨za, hza, hz⟩ : ∃ za, za = ((List.replicate 256 false).map Value.bool).toArray ∧ ∀ w : World, (zeroValue TA).run Try.prog w = .ok (.agg za) w := ⟨_, rfl, zeroA⟩
  have HZA := Lib.hid hza
  clear hza
  go_wp2_with fail
  go_loopw [7] (fun i wr => ∃ k : Nat, k ≤ m ∧ i = .int .i64 k ∧ Hid (PoolIn w wr b (up k) (k % 256))) (fun i _ => m - (intOf i).toNat)
  case atStart => exact ⟨0, by omega, rfl, h3⟩
  case round =>
    obtain ⟨k, hk, rfl, hp⟩ := hrel
    clear h3
    by_cases hlt : k < m
    · have hm4 : k % 256 = k := Nat.mod_eq_of_lt (by omega)
      rw [hm4] at hp
      have hlt1 : k < 256 := by omega
      have hlt2 : (k : Int) < m := by omega
      go_wp2_with fail
      refine (ftk w _ _ (up (k + 1)) k ((k + 1) % 256) k _ hp hlt1 (up_v hlt1) (up_set k) (up_n hlt1)).mono ?_
      rintro e w9 ⟨rfl, h9⟩
      go_wp2_with fail
      exact ⟨⟨k + 1, by omega, by go_num, h9⟩, by simp [intOf]; omega⟩
    · obtain rfl : k = m := by omega
      clear hlt hk
      have h4 : Hid (PoolArr w (wr.alloc (.cells za TA)) b wr.heap.size (inUse k (fun _ => false)) (k % 256) (pl fun _ => false)) := by
        have e : inUse k (fun _ => false) = up k := pl_congr fun j _ => by simp
        rw [HZA.out, e]
        exact Lib.hid (PoolArr.made hp.out)
      have hcnt : Hid (((inUse k (fun _ => false)).countP id : Int) = k) := by
        have e : ∀ q : Nat, q ≤ 256 → ((up q).countP id : Int) = q := by
          intro q
          induction q with
          | zero => intro _; decide +kernel
          | succ q ih =>
            intro hq
            rw [← up_set q]
            have := count_set (fun j => decide (j < q)) (i := q) (by omega) (by simp)
            unfold up at ih ⊢
            rw [this, ih (by omega)]
            omega
        have e2 : inUse k (fun _ => false) = up k := pl_congr fun j _ => by simp
        rw [e2]
        exact Lib.hid (e k hm2)
      clear hp HZA
      go_wp2_with fail
      obtain ⟨c, hc⟩ : ∃ c, c = wr.heap.size := ⟨_, rfl⟩
      rw [← hc] at h4
      rw [← hc]
      obtain ⟨wz, hwz⟩ : ∃ wz, wz = wr.alloc (.cells za TA) := ⟨_, rfl⟩
      rw [← hwz] at h4
      rw [← hwz]
      clear hc hwz hz
      go_loopw [8, 10] (fun l i wr => ∃ (q : Nat) (g : Nat → Bool), q ≤ len1 ∧ q ≤ 300 ∧ i = .int .i64 q ∧ l = .int .i64 (((inUse k g).countP id : Nat) : Int) ∧ Hid (PoolArr w wr b c (inUse k g) (k % 256) (pl g))) (fun _ i _ => 300 - (intOf i).toNat)
      case atStart => exact ⟨0, fun _ => false, by omega, by omega, rfl, by rw [hcnt.out], h4⟩
      case round =>
        obtain ⟨q, g, hq1, hq2, rfl, rfl, hp⟩ := hrel
        clear hcnt h4
        have hle : (inUse k g).countP id ≤ 256 := Nat.le_trans List.countP_le_length (by rw [inUse, pl_length]; omega)
        by_cases h12 : q < len1 ∧ q < 300
        · obtain ⟨hlt, hlt2⟩ := h12
          obtain ⟨b2, off, rfl, hb2, hcl⟩ := hr0.at (j := q) (by omega)
          obtain ⟨x, hx⟩ : ∃ x : Int, x = z1.getD q 0 := ⟨_, rfl⟩
          have hcm := hcl q (by omega)
          rw [← hx] at hcm
          have hxw : 0 ≤ x ∧ x ≤ 255 := by
            have hm : x ∈ z1 := by
              rw [hx, List.getD_eq_getElem?_getD, List.getElem?_eq_getElem (by have := hr0.len_le.1; omega)]
              exact List.getElem_mem _
            exact bounds_u8 (hr0.wf x hm)
          obtain ⟨hx1, hx2⟩ := hxw
          have hcw := (hp.out.bel.cell (p := ⟨b2, off + q, none⟩) hb2).trans hcm
          clear hcl hx hcm
          obtain ⟨i, hi⟩ : ∃ i : Nat, (i : Int) = x % k := ⟨(x % k).toNat, by have : 0 ≤ x % (k : Int) := Int.emod_nonneg _ (by omega); omega⟩
          have hik : i < k := by have : x % (k : Int) < k := Int.emod_lt_of_pos _ (by omega); omega
          have hkz : ((k : Int) == 0) = false := by simp; omega
          have hi6 : i < 256 := by omega
          have hi7 : (i : Int) < 256 := by omega
          have HI := Lib.hid hi
          clear hi
          have hE := freeE_use g hik hm2
          have hU := freeU_use g hik hm2
          go_wp2_with fail
          rw [← HI.out]
          cases hg : g i with
          | true =>
            have hus : (inUse k g).set i false = inUse k g := set_same _ _ _ (by rw [inUse_at g hik hm2, hg]; rfl)
            rw [hg, if_pos rfl] at hE
            rw [hus] at hU
            refine (afr w b c _ _ _ _ i 5 _ hp hE hU).mono ?_
            rintro e w9 ⟨rfl, h9⟩
            have hac := h9.out.a.cell i hi6
            rw [pl_get g hi6, hg] at hac
            clear hE hU hus
            go_wp2_with fail
            refine (aus w b c _ _ _ _ _ h9 rfl).mono ?_
            rintro e _ ⟨rfl, rfl⟩
            go_wp2_with fail
            exact ⟨⟨q + 1, g, by omega, by omega, by go_num, rfl, h9⟩, by simp [intOf]; omega⟩
          | false =>
            rw [hg, if_neg (by decide)] at hE
            rw [inUse_mark] at hU
            have hct := count_clear (fun j => decide (j < k) && !g j) hi6 (by simp [hg, hik])
            change ((((inUse k g).set i false).countP id : Nat) : Int) = (inUse k g).countP id - 1 ∧ 1 ≤ (inUse k g).countP id at hct
            rw [inUse_mark] at hct
            obtain ⟨hct1, hct2⟩ := hct
            have HCT := Lib.hid hct1
            clear hct1
            refine (afr w b c _ _ _ _ i 0 _ hp hE hU).mono ?_
            rintro e w9 ⟨rfl, h9⟩
            have hac := h9.out.a.cell i hi6
            rw [pl_get g hi6, hg] at hac
            have hfc := h9.out.a.free i
            have h10 := Lib.hid (h9.out.set i true)
            have hpl : (pl g).set i true = pl (mark g i) := pl_set _ _ _
            rw [hpl] at h10
            clear hE hU hpl
            go_wp2_with fail
            refine (aus w b c _ _ _ _ _ h10 HCT.out).mono ?_
            rintro e _ ⟨rfl, rfl⟩
            go_wp2_with fail
            exact ⟨⟨q + 1, mark g i, by omega, by omega, by go_num, by rw [HCT.out], h10⟩, by simp [intOf]; omega⟩
        · have h13 : (q < len1 ∧ ¬ q < 300) ∨ ¬ q < len1 := by omega
          clear h12
          rcases h13 with ⟨h14, h15⟩ | h14
          all_goals
            go_wp2_with fail
            go_loopw [13] (fun i wr => ∃ q : Nat, q ≤ k ∧ i = .int .i64 q ∧ Hid (PoolArr w wr b c (inUse k (gg g q)) (k % 256) (pl g))) (fun i _ => k - (intOf i).toNat)
            case atStart => exact ⟨0, by omega, rfl, by rw [gg_zero]; exact hp⟩
            case round =>
              obtain ⟨i, hi1, rfl, hp2⟩ := hrel
              clear hp
              by_cases hik : i < k
              · have hik2 : (i : Int) < k := by omega
                have hi6 : i < 256 := by omega
                have hi7 : (i : Int) < 256 := by omega
                have hE := freeE_use (gg g i) hik hm2
                have hU := freeU_use (gg g i) hik hm2
                rw [inUse_gg] at hU
                have hgi : gg g i i = g i := by simp [gg]
                rw [hgi] at hE
                have hac := hp2.out.a.cell i hi6
                rw [pl_get g hi6] at hac
                cases hg : g i with
                | true =>
                  rw [hg, if_pos rfl] at hE
                  rw [hg] at hac
                  have HE := Lib.hid hE
                  have HU := Lib.hid hU
                  clear hE hU hgi
                  go_wp2_with fail
                  refine wp_region_noPanic ?_
                  refine wp_region_held_drew (S := (fun w' => w'.cell? ⟨c, i, none⟩ = some (.bool true))) (by kernel_rfl) (hac) (fun hHeld => ?_)
                  refine wpAnyH_takeD (i := 0) (v := ?_) rfl (by kernel_rfl) (by kernel_rfl) (by kernel_rfl) (fun _ _ _ h => h) (Or.inl ⟨by rfl, ?_⟩) hHeld ?_
                  rotate_left
                  · intro w hSw
                    go_simp
                    try with_reducible rfl
                  try simp only [Act.put, List.setIfInBounds_toArray, List.set_cons_zero, List.set_cons_succ]
                  refine wpAnyH_takeD (i := 1) (v := ?_) rfl (by kernel_rfl) (by kernel_rfl) (by kernel_rfl) (fun _ _ _ h => h) (Or.inl ⟨by rfl, ?_⟩) hHeld ?_
                  rotate_left
                  · intro w hSw
                    go_simp
                    try with_reducible rfl
                  try simp only [Act.put, List.setIfInBounds_toArray, List.set_cons_zero, List.set_cons_succ]
                  refine wpAnyH_takeD (i := 4) (v := ?_) rfl (by kernel_rfl) (by kernel_rfl) (by kernel_rfl) (fun _ _ _ h => h) (Or.inl ⟨by rfl, ?_⟩) hHeld ?_
                  rotate_left
                  · intro w hSw
                    go_simp
                    try with_reducible rfl
                  try simp only [Act.put, List.setIfInBounds_toArray, List.set_cons_zero, List.set_cons_succ]
                  refine wpAnyH_takeD (i := 5) (v := ?_) rfl (by kernel_rfl) (by kernel_rfl) (by kernel_rfl) (fun _ _ _ h => h) (Or.inl ⟨by rfl, ?_⟩) hHeld ?_
                  rotate_left
                  · intro w hSw
                    go_simp
                    try with_reducible rfl
                  try simp only [Act.put, List.setIfInBounds_toArray, List.set_cons_zero, List.set_cons_succ]
                  refine wpAnyH_takeD (i := 6) (v := ?_) rfl (by kernel_rfl) (by kernel_rfl) (by kernel_rfl) (fun _ _ _ h => h) (Or.inl ⟨by rfl, ?_⟩) hHeld ?_
                  rotate_left
                  · intro w hSw
                    go_simp
                    try with_reducible rfl
                  try simp only [Act.put, List.setIfInBounds_toArray, List.set_cons_zero, List.set_cons_succ]
                  refine wpAnyH_one (i := 2) rfl (by kernel_rfl) (fun K hK => ?_)
                  go_simp
                  refine (afr w b c _ _ _ _ i 5 _ (Lib.hid hp2.out.drew) HE.out HU.out).mono ?_
                  rintro e w9 ⟨rfl, h9⟩
                  have hc9 : w9.cell? ⟨c, i, none⟩ = some (.bool true) := by rw [h9.out.a.cell i hi6, pl_get g hi6, hg]
                  refine hK.out _ _ (hc9) (fun hHeld => ?_)
                  clear hK K
                  try simp only [Act.put, List.setIfInBounds_toArray, List.set_cons_zero, List.set_cons_succ]
                  refine wpAnyH_takeD (i := 3) (v := ?_) rfl (by kernel_rfl) (by kernel_rfl) (by kernel_rfl) (fun _ _ _ h => h) (Or.inl ⟨by rfl, ?_⟩) hHeld ?_
                  rotate_left
                  · intro w hSw
                    go_simp
                    try with_reducible rfl
                  try simp only [Act.put, List.setIfInBounds_toArray, List.set_cons_zero, List.set_cons_succ]
                  refine wpAnyH_takeD (i := 7) (v := ?_) rfl (by kernel_rfl) (by kernel_rfl) (by kernel_rfl) (fun _ _ _ h => h) (Or.inl ⟨by rfl, ?_⟩) hHeld ?_
                  rotate_left
                  · intro w hSw
                    go_simp
                    try with_reducible rfl
                  try simp only [Act.put, List.setIfInBounds_toArray, List.set_cons_zero, List.set_cons_succ]
                  refine wpAnyH_rest (fun w' => PoolArr w w' b c (inUse k (gg g (i + 1))) (k % 256) (pl g)) 8 _ (fun w' h => by rw [h.a.cell i hi6, pl_get g hi6, hg]) h9.out (by simp only [List.drop_succ_cons, List.drop_zero]) (by kernel_rfl) (by kernel_rfl) ?_
                  refine wpQuiet_nil ?_
                  intro w6 h6
                  refine NoPanic.normal ?_
                  have h7 := Lib.hid h6
                  clear h6 hHeld
                  go_wp2_with fail
                  exact ⟨⟨i + 1, by omega, by go_num, h7⟩, by simp [intOf]; omega⟩
                | false =>
                  rw [hg, if_neg (by decide)] at hE
                  rw [hg] at hac
                  have HE := Lib.hid hE
                  have HU := Lib.hid hU
                  clear hE hU hgi
                  go_wp2_with fail
                  refine wp_region_noPanic ?_
                  refine wp_region_held_drew (S := (fun w' => w'.cell? ⟨c, i, none⟩ = some (.bool false))) (by kernel_rfl) (hac) (fun hHeld => ?_)
                  refine wpAnyH_takeD (i := 0) (v := ?_) rfl (by kernel_rfl) (by kernel_rfl) (by kernel_rfl) (fun _ _ _ h => h) (Or.inl ⟨by rfl, ?_⟩) hHeld ?_
                  rotate_left
                  · intro w hSw
                    go_simp
                    try with_reducible rfl
                  try simp only [Act.put, List.setIfInBounds_toArray, List.set_cons_zero, List.set_cons_succ]
                  refine wpAnyH_takeD (i := 1) (v := ?_) rfl (by kernel_rfl) (by kernel_rfl) (by kernel_rfl) (fun _ _ _ h => h) (Or.inl ⟨by rfl, ?_⟩) hHeld ?_
                  rotate_left
                  · intro w hSw
                    go_simp
                    try with_reducible rfl
                  try simp only [Act.put, List.setIfInBounds_toArray, List.set_cons_zero, List.set_cons_succ]
                  refine wpAnyH_takeD (i := 4) (v := ?_) rfl (by kernel_rfl) (by kernel_rfl) (by kernel_rfl) (fun _ _ _ h => h) (Or.inl ⟨by rfl, ?_⟩) hHeld ?_
                  rotate_left
                  · intro w hSw
                    go_simp
                    try with_reducible rfl
                  try simp only [Act.put, List.setIfInBounds_toArray, List.set_cons_zero, List.set_cons_succ]
                  refine wpAnyH_takeD (i := 5) (v := ?_) rfl (by kernel_rfl) (by kernel_rfl) (by kernel_rfl) (fun _ _ _ h => h) (Or.inl ⟨by rfl, ?_⟩) hHeld ?_
                  rotate_left
                  · intro w hSw
                    go_simp
                    try with_reducible rfl
                  try simp only [Act.put, List.setIfInBounds_toArray, List.set_cons_zero, List.set_cons_succ]
                  refine wpAnyH_takeD (i := 6) (v := ?_) rfl (by kernel_rfl) (by kernel_rfl) (by kernel_rfl) (fun _ _ _ h => h) (Or.inl ⟨by rfl, ?_⟩) hHeld ?_
                  rotate_left
                  · intro w hSw
                    go_simp
                    try with_reducible rfl
                  try simp only [Act.put, List.setIfInBounds_toArray, List.set_cons_zero, List.set_cons_succ]
                  refine wpAnyH_one (i := 2) rfl (by kernel_rfl) (fun K hK => ?_)
                  go_simp
                  refine (afr w b c _ _ _ _ i 0 _ (Lib.hid hp2.out.drew) HE.out HU.out).mono ?_
                  rintro e w9 ⟨rfl, h9⟩
                  have hc9 : w9.cell? ⟨c, i, none⟩ = some (.bool false) := by rw [h9.out.a.cell i hi6, pl_get g hi6, hg]
                  refine hK.out _ _ (hc9) (fun hHeld => ?_)
                  clear hK K
                  try simp only [Act.put, List.setIfInBounds_toArray, List.set_cons_zero, List.set_cons_succ]
                  refine wpAnyH_takeD (i := 3) (v := ?_) rfl (by kernel_rfl) (by kernel_rfl) (by kernel_rfl) (fun _ _ _ h => h) (Or.inl ⟨by rfl, ?_⟩) hHeld ?_
                  rotate_left
                  · intro w hSw
                    go_simp
                    try with_reducible rfl
                  try simp only [Act.put, List.setIfInBounds_toArray, List.set_cons_zero, List.set_cons_succ]
                  refine wpAnyH_takeD (i := 7) (v := ?_) rfl (by kernel_rfl) (by kernel_rfl) (by kernel_rfl) (fun _ _ _ h => h) (Or.inl ⟨by rfl, ?_⟩) hHeld ?_
                  rotate_left
                  · intro w hSw
                    go_simp
                    try with_reducible rfl
                  try simp only [Act.put, List.setIfInBounds_toArray, List.set_cons_zero, List.set_cons_succ]
                  refine wpAnyH_rest (fun w' => PoolArr w w' b c (inUse k (gg g (i + 1))) (k % 256) (pl g)) 8 _ (fun w' h => by rw [h.a.cell i hi6, pl_get g hi6, hg]) h9.out (by simp only [List.drop_succ_cons, List.drop_zero]) (by kernel_rfl) (by kernel_rfl) ?_
                  refine wpQuiet_nil ?_
                  intro w6 h6
                  refine NoPanic.normal ?_
                  have h7 := Lib.hid h6
                  clear h6 hHeld
                  go_wp2_with fail
                  exact ⟨⟨i + 1, by omega, by go_num, h7⟩, by simp [intOf]; omega⟩
              · obtain rfl : i = k := by omega
                rw [inUse_all] at hp2
                have hm9 : i % 256 < 256 := Nat.mod_lt _ (by decide)
                go_wp2_with fail
                refine (aus w b c _ _ _ 0 _ hp2 (by decide +kernel)).mono ?_
                rintro e _ ⟨rfl, rfl⟩
                go_wp2_with fail
                refine (atk w b c _ _ _ _ _ (i % 256 : Nat) _ hp2 hm9 (by unfold takeV; rw [pl_get _ hm9]; rfl) rfl rfl).mono ?_
                rintro e w9 ⟨rfl, h9⟩
                go_wp2_with fail
                go_returns
                exact ⟨by simp, h9.out.bel⟩

end Go.Proofs.Ytlcjgphibodjkaa
