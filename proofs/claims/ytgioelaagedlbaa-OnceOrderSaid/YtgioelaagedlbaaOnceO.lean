/- Cells that make use of one another. -/
import Derived.Test.YtgioelaagedlbaaOnceQ
namespace Go.Proofs.Ytgioelaagedlbaa
open Go.RowKit
attribute [local go_sem ↓] Go.wp_at_zero Go.wp_at_succ
set_option linter.unusedVariables false
set_option linter.unusedSimpArgs false

/-- a cell's answer, and the world just ahead of its copy -/
def Got2 (w : World) (g : Nat) (mk : Value) (xs : List Int) (F : Nat → Prop) (J : World → Prop) (e : Ending) (w' : World) : Prop :=
  ∃ A c w2, e = .returned (.slice A xs.length c) ∧ Own w' 1 A xs.length c (ic xs) ∧ Hot w2 g mk xs w.heap.size w2.heap.size ∧ J w2 ∧ Mod (fun q => q = g ∨ F q) w w2 ∧ Mod (fun _ => False) w2 w' ∧ (∀ q, blk A = some q → w2.heap.size ≤ q)
set_option maxHeartbeats 1600000 in
theorem get_first2 (g : Nat) (mk l0 : Value) (w : World) (hC : Cells w g (cv false 0 mk l0 false)) (xs : List Int) (hx : xs.length ≤ 1000) (F : Nat → Prop) (hFg : ¬ F g) (hFlt : ∀ q, F q → q < w.heap.size) (J : World → Prop) (hJ : ∀ W W', J W → Mod (fun q => q = g) W W' → J W')
    (h21 : ∀ pl W, pl.block = w.heap.size → W.cell? pl = some (.pointer (some ⟨g, 0, none⟩)) → Cells W g (cv false 1 mk l0 false) → Mod (fun q => q = g) (w.alloc (.cells #[.pointer (some ⟨g, 0, none⟩)] 24)) W → Calls Try.prog 21 #[.pointer (some pl)] W fun e w' => e = .returned (.tuple #[]) ∧ ∃ l1, Cells w' g (cv false 1 mk l1 true) ∧ Rk (w.alloc (.cells #[.pointer (some ⟨g, 0, none⟩)] 24)) g xs F J l1 w') :
    Calls Try.prog 12 #[.pointer (some ⟨g, 0, none⟩)] w (Got2 w g mk xs F J) := by
  have hmf : ∀ (fn : Fn) (first cap : Array Value) (w : World), (Instr.makeFunc fn first cap).run Try.prog w = .ok (.func fn first cap) w := fun _ _ _ _ => rfl
  have hg : g < w.heap.size := hC.2.2
  have hng : ¬ g = w.heap.size := by omega
  have p0 : (w.alloc (.cells #[.pointer (some ⟨g, 0, none⟩)] 24)).cell? ⟨w.heap.size, 0, none⟩ = some (.pointer (some ⟨g, 0, none⟩)) := by simp
  have HD := Lib.hid (do_first g ⟨w.heap.size, 0, none⟩ mk l0 (w.alloc (.cells #[.pointer (some ⟨g, 0, none⟩)] 24)) (hC.alloc _) (fun l W => Rk (w.alloc (.cells #[.pointer (some ⟨g, 0, none⟩)] 24)) g xs F J l W) (fun l W W' h hm => h.next (by simp; omega) hJ hm)
    (fun W hW hM => h21 ⟨w.heap.size, 0, none⟩ W rfl (hM.cell p0 (fun h => by have h2 : w.heap.size = g := h; omega)) hW hM))
  clear h21
  go_enter Try.func12, Try.ntmps12
  go_wp2_with fail
  refine HD.out.mono ?_
  rintro e w2 ⟨rfl, l1, C2, L, c, rfl, o2, b2, j2, m2⟩
  have hFw : ¬ F w.heap.size := fun h => by have := hFlt _ h; omega
  have q0 := m2.cell p0 (fun h => by rcases h with h | h; exact hng h.symm; exact hFw h)
  have k4 : w2.cell? ⟨g, 4, none⟩ = some (.slice L xs.length c) := C2.1 4 _ rfl
  have HCl := Lib.hid (cloneI_any L xs c w2 (Sl.of_own o2) (fun e => by subst e; exact List.eq_nil_of_length_eq_zero (own_none o2)) hx)
  have HC2 := Lib.hid C2
  have HO2 := Lib.hid o2
  have HB2 := Lib.hid b2
  have HJ2 := Lib.hid j2
  have HM2 := Lib.hid m2
  clear C2 o2 b2 j2 m2 HD hC p0
  go_wp2_with fail
  refine HCl.out.mono ?_
  rintro e w3 ⟨A, d, rfl, o3, m3, b3⟩
  have hr := Lib.hid (show Got2 w g mk xs F J (.returned (.slice A xs.length d)) w3 from ⟨A, d, w2, rfl, o3, ⟨L, c, HC2.out, HO2.out, fun q e => ⟨by have := HB2.out q e; simp at this; omega, HO2.out.lt e⟩⟩,
    HJ2.out, ((Mod.refl _ w).alloc _).trans HM2.out fun k hk => .inl hk, m3, b3⟩)
  clear o3 m3 b3
  go_wp2_with fail
  go_ret
  exact hr.out

/-! ### lists -/
def upto (i : Nat) : List Int := (List.range (i + 1)).map fun (j : Nat) => (j : Int) + 1
theorem upto_len (i : Nat) : (upto i).length = i + 1 := by simp [upto]
theorem upto_next (i : Nat) : upto (i + 1) = upto i ++ [(i : Int) + 2] := by
  unfold upto
  rw [List.range_succ, List.map_append]
  congr 1
theorem upto_at (i : Nat) {j : Nat} (h : j ≤ i) : (ic (upto i))[j]? = some (.int .i64 ((j : Int) + 1)) := by
  simp [ic, upto, show j < i + 1 by omega]
/-- from f up to i (not i itself) all is 1 -/
def Fill (ms ms' : List Int) (f i : Nat) : Prop := ms'.length = ms.length ∧ ∀ j, j < ms.length → ms'[j]? = if f ≤ j ∧ j < i then some 1 else ms[j]?
theorem Fill.refl (ms : List Int) (f : Nat) : Fill ms ms f f := ⟨rfl, fun j hj => by rw [if_neg (by omega)]⟩
theorem Hot.up {w : World} {g : Nat} {mk : Value} {xs : List Int} {lo hi lo' hi' : Nat} (h : Hot w g mk xs lo hi) (h1 : lo' ≤ lo) (h2 : hi ≤ hi') : Hot w g mk xs lo' hi' := by
  obtain ⟨L, c, a, b, d⟩ := h
  exact ⟨L, c, a, b, fun q e => by have := d q e; omega⟩

/-! ### what lies where -/
def FO (hx hl : Nat) : Value := .func (.func 17) #[] #[.pointer (some ⟨hx, 0, none⟩), .pointer (some ⟨hl, 0, none⟩)]
structure FixO (hM hx hl b0 lo N : Nat) (A : Option Addr) (b g : Nat → Nat) : Prop where
  a1 : hM < hx
  a2 : hx < hl
  a3 : hl < b0
  a4 : b0 < lo
  h2 : ∀ j, j < N → b0 < b j ∧ b j < g j ∧ g j < lo
  h3 : ∀ j k, j < k → k < N → g j < b k
  h5 : ∀ q, blk A = some q → b0 < q ∧ q < lo ∧ ∀ j, j < N → q ≠ b j ∧ q ≠ g j
theorem FixO.apart {hM hx hl b0 lo N : Nat} {A : Option Addr} {b g : Nat → Nat} (h : FixO hM hx hl b0 lo N A b g) {j k : Nat} (hj : j < N) (hk : k < N) : b j ≠ g k ∧ (j ≠ k → g j ≠ g k) := by
  have x1 := h.h2 j hj
  have x2 := h.h2 k hk
  rcases Nat.lt_trichotomy j k with hl | hl | hl
  · have := h.h3 j k hl hk; omega
  · subst hl; omega
  · have := h.h3 k j hl hj; omega
def OB (hM hx hl b0 N : Nat) (A : Option Addr) (c : Nat) (b g : Nat → Nat) (w : World) : Prop :=
  Cells w hx [.slice (some ⟨hM, 0, none⟩) N N] ∧ Cells w hl [.slice A N c] ∧ Own w 1 A N c (pcells g N) ∧ Cells w b0 [FO hx hl] ∧ ∀ j, j < N → Cells w (b j) [.int .i64 j]
theorem OB.mod {hM hx hl b0 lo N : Nat} {A : Option Addr} {c : Nat} {b g : Nat → Nat} {w w' : World} {F : Nat → Prop} (hf : FixO hM hx hl b0 lo N A b g) (h : OB hM hx hl b0 N A c b g w) (hm : Mod F w w') (hF : ∀ q, F q → q = hM ∨ (∃ j, j < N ∧ q = g j) ∨ lo ≤ q) : OB hM hx hl b0 N A c b g w' := by
  obtain ⟨p1, p2, p3, p4, p5⟩ := h
  have x1 := hf.a1
  have x2 := hf.a2
  have x3 := hf.a3
  have x4 := hf.a4
  refine ⟨p1.mod hm fun e => ?_, p2.mod hm fun e => ?_, p3.mod hm fun q e h => ?_, p4.mod hm fun e => ?_, fun j hj => (p5 j hj).mod hm fun e => ?_⟩
  · rcases hF _ e with h | ⟨j, hj, h⟩ | h
    · omega
    · have := hf.h2 j hj; omega
    · omega
  · rcases hF _ e with h | ⟨j, hj, h⟩ | h
    · omega
    · have := hf.h2 j hj; omega
    · omega
  · have h5 := hf.h5 q e
    rcases hF _ h with h | ⟨j, hj, h⟩ | h
    · omega
    · exact (h5.2.2 j hj).2 h
    · omega
  · rcases hF _ e with h | ⟨j, hj, h⟩ | h
    · omega
    · have := hf.h2 j hj; omega
    · omega
  · have h2 := hf.h2 j hj
    rcases hF _ e with h | ⟨k, hk, h⟩ | h
    · omega
    · exact (hf.apart hj hk).1 h
    · omega
def Fl (hM : Nat) (g : Nat → Nat) (f i : Nat) (q : Nat) : Prop := q = hM ∨ ∃ j, f ≤ j ∧ j < i ∧ q = g j

/-- the cells from f up to i (not i itself) are made -/
def JO (hM lo N b0 : Nat) (b g : Nat → Nat) (ms : List Int) (f i k top : Nat) (w : World) : Prop :=
  top ≤ w.heap.size ∧ lo ≤ top ∧ (∀ j, f ≤ j → j < i → Hot w (g j) (PK b0 (b j)) (upto j) lo top) ∧ ∃ ms', Fill ms ms' f k ∧ Own w 1 (some ⟨hM, 0, none⟩) N N (ic ms')

section
variable {hM hx hl b0 lo N : Nat} {A : Option Addr} {c : Nat} {b g : Nat → Nat}
theorem Own.set1 {w : World} {g n c : Nat} {xs : List Int} (h : Own w 1 (some ⟨g, 0, none⟩) n c (ic xs)) {j : Nat} (hj : j < n) (u : Int) : Own (w.setCell ⟨g, j, none⟩ (.int .i64 u)) 1 (some ⟨g, 0, none⟩) n c (ic (xs.set j u)) := by
  rw [show ic (xs.set j u) = (ic xs).set j (.int .i64 u) from List.map_set]
  obtain ⟨h1, h2, h3, h4⟩ := h
  rcases h4 with ⟨h5, _⟩ | ⟨g', o', e, hl, hr, hx⟩
  · cases h5
  · injection e with e
    injection e with e1 e2
    subst e1 e2
    refine ⟨by rw [List.length_set]; exact h1, h2, h3, .inr ⟨g, 0, rfl, by simp [World.setCell]; exact hl, fun i hi => ⟨?_, by rw [World.frozen?_setCell]; exact (hr i hi).2⟩, fun i v hv => ?_⟩⟩
    · by_cases e : i = j
      · subst e
        have h6 := (hr i hi).1
        rw [Nat.zero_add] at h6 ⊢
        obtain ⟨y, hy⟩ := Option.isSome_iff_exists.1 h6
        rw [World.cell?_setCell_same (h := hy)]; rfl
      · rw [World.cell?_setCell_other _ _ _ _ (by intro h; injection h with _ h; omega)]
        exact (hr i hi).1
    · by_cases e : i = j
      · subst e
        have h6 := (hr i (by omega)).1
        rw [Nat.zero_add] at h6 ⊢
        obtain ⟨y, hy⟩ := Option.isSome_iff_exists.1 h6
        rw [List.getElem?_set_self (by rw [h1]; omega)] at hv
        injection hv with hv
        subst hv
        exact World.cell?_setCell_same (h := hy) ..
      · rw [List.getElem?_set_ne (fun h => e h.symm)] at hv
        rw [World.cell?_setCell_other _ _ _ _ (by intro h; injection h with _ h; omega)]
        exact hx i v hv
theorem Fill.step {ms ms' : List Int} {f i : Nat} (hi : i < ms.length) (hf : f ≤ i) (h : Fill (ms.set i 1) ms' f i) : Fill ms ms' f (i + 1) := by
  obtain ⟨h1, h2⟩ := h
  refine ⟨by simpa using h1, fun j hj => ?_⟩
  rw [h2 j (by simpa using hj)]
  by_cases e : j = i
  · subst e
    rw [if_neg (by omega), if_pos (by omega), List.getElem?_set_self hj]
  · rw [List.getElem?_set_ne (fun h => e h.symm)]
    by_cases e2 : f ≤ j ∧ j < i
    · rw [if_pos e2, if_pos (by omega)]
    · rw [if_neg e2, if_neg (by omega)]

def MkO (hM lo N b0 : Nat) (b g : Nat → Nat) (ms : List Int) (f i : Nat) (W : World) (e : Ending) (w' : World) : Prop :=
  ∃ A c, e = .returned (.slice A (i + 1) c) ∧ Own w' 1 A (i + 1) c (ic (upto i)) ∧ Mod (Fl hM g f i) W w' ∧ ∃ top, JO hM lo N b0 b g ms f i (i + 1) top w'
set_option maxHeartbeats 1600000 in
theorem mk_ord0 (hf : FixO hM hx hl b0 lo N A b g) (W : World) (ms : List Int) (hN : 0 < N) (hNm : N ≤ 64) (hob : OB hM hx hl b0 N A c b g W) (hms : ms.length = N) (h0 : ms[0]? = some 0) (hom : Own W 1 (some ⟨hM, 0, none⟩) N N (ic ms)) (hlo : lo ≤ W.heap.size) :
    Calls Try.prog 17 #[.int .i64 0, .pointer (some ⟨hx, 0, none⟩), .pointer (some ⟨hl, 0, none⟩)] W (MkO hM lo N b0 b g ms 0 0 W) := by
  have c0 : W.cell? ⟨hx, 0, none⟩ = some (.slice (some ⟨hM, 0, none⟩) N N) := hob.1.1 0 _ rfl
  have c1 : W.cell? ⟨hM, 0, none⟩ = some (.int .i64 0) := by
    obtain ⟨g', o', e', _, hc⟩ := hom.at_ (j := 0) (u := .int .i64 0) (by simp [ic, h0])
    injection e' with e'
    injection e' with e1 e2
    subst e1 e2
    simpa using hc
  have f1 : W.frozen? ⟨hM, 0, none⟩ = false := by
    rcases hom.2.2.2 with ⟨h, _⟩ | ⟨g', o', e', _, hr, _⟩
    · cases h
    · injection e' with e'
      injection e' with e1 e2
      subst e1 e2
      have := (hr 0 (by omega)).2
      simpa using this
  have HS := Lib.hid (hom.set1 hN 1)
  have hMl : hM < W.heap.size := by have := hf.a1; have := hf.a2; have := hf.a3; have := hf.a4; omega
  have n0 : (0 : Int) < (N : Int) := by omega
  clear hob hom
  go_enter Try.func17, Try.ntmps17
  go_wp2_with fail
  go_ret
  refine ⟨_, _, rfl, (own_newS W ⟨hM, 0, none⟩ (.int .i64 1) #[.int .i64 1] _ 1 1 rfl (by decide) : Own _ 1 _ (0 + 1) 1 (ic (upto 0))), ((Mod.refl (Fl hM g 0 0) W).setCell (p := ⟨hM, 0, none⟩) (.inl (.inl rfl)) _).alloc _, lo, ?_, Nat.le_refl _, fun j _ h => absurd h (by omega), ms.set 0 1, Fill.step (by omega) (Nat.le_refl _) (Fill.refl _ _), HS.out.alloc _⟩
  simp [World.setCell]
  omega
set_option maxHeartbeats 3200000 in
theorem mk_ordS (hf : FixO hM hx hl b0 lo N A b g) (W : World) (ms : List Int) (f i : Nat) (hi : i + 1 < N) (hfi : f ≤ i + 1) (hNm : N ≤ 64) (hob : OB hM hx hl b0 N A c b g W) (hms : ms.length = N) (h0 : ms[i + 1]? = some 0) (hom : Own W 1 (some ⟨hM, 0, none⟩) N N (ic ms)) (hlo : lo ≤ W.heap.size)
    (hin : ∀ W1, Mod (fun q => q = hM) W W1 → Own W1 1 (some ⟨hM, 0, none⟩) N N (ic (ms.set (i + 1) 1)) → OB hM hx hl b0 N A c b g W1 → Calls Try.prog 12 #[.pointer (some ⟨g i, 0, none⟩)] W1 fun e w' => ∃ A2 c2 top, e = .returned (.slice A2 (i + 1) c2) ∧ Own w' 1 A2 (i + 1) c2 (ic (upto i)) ∧ (∀ q, blk A2 = some q → top ≤ q) ∧ W1.heap.size ≤ top ∧ JO hM lo N b0 b g (ms.set (i + 1) 1) f (i + 1) (i + 1) top w' ∧ Mod (Fl hM g f (i + 1)) W1 w') :
    Calls Try.prog 17 #[.int .i64 ((i + 1 : Nat) : Int), .pointer (some ⟨hx, 0, none⟩), .pointer (some ⟨hl, 0, none⟩)] W (MkO hM lo N b0 b g ms f (i + 1) W) := by
  obtain ⟨t0, ht0, hz0, hz1, hz2⟩ := info_parts info_i64
  have HI := Lib.hid ht0
  have HZ0 := Lib.hid hz0
  have HZ1 := Lib.hid hz1
  have HZ2 := Lib.hid hz2
  clear ht0 hz0 hz1 hz2
  have c0 : W.cell? ⟨hx, 0, none⟩ = some (.slice (some ⟨hM, 0, none⟩) N N) := hob.1.1 0 _ rfl
  have c1 : W.cell? ⟨hM, i + 1, none⟩ = some (.int .i64 0) := by
    obtain ⟨g', o', e', _, hc⟩ := hom.at_ (j := i + 1) (u := .int .i64 0) (by simp [ic, h0])
    injection e' with e'
    injection e' with e1 e2
    subst e1 e2
    rwa [Nat.zero_add] at hc
  have f1 : W.frozen? ⟨hM, i + 1, none⟩ = false := by
    rcases hom.2.2.2 with ⟨h, _⟩ | ⟨g', o', e', _, hr, _⟩
    · cases h
    · injection e' with e'
      injection e' with e1 e2
      subst e1 e2
      have := (hr (i + 1) (by omega)).2
      rwa [Nat.zero_add] at this
  have hS := hom.set1 hi 1
  have hmS := (Mod.refl (fun q => q = hM) W).setCell (p := ⟨hM, i + 1, none⟩) (.inl rfl) (.int .i64 1)
  have hobS := hob.mod hf hmS (fun q e => .inl e)
  have c2 : (W.setCell ⟨hM, i + 1, none⟩ (.int .i64 1)).cell? ⟨hl, 0, none⟩ = some (.slice A N c) := hobS.2.1.1 0 _ rfl
  obtain ⟨gA, oA, hA, hgA, c3⟩ := hobS.2.2.1.at_ (pcells_at g (show i < N by omega))
  have HG := Lib.hid (hin _ hmS hS hobS)
  have HMS := Lib.hid hmS
  have i0 : (0 : Int) ≤ (i : Int) := by omega
  have i1 : (i : Int) < (N : Int) := by omega
  have i2 : (i : Int) + 1 < (N : Int) := by omega
  have i3 : ¬ ((i : Int) + 1 = 0) := by omega
  have hw1 : wrap64 ((i : Int) + 1 - 1) = (i : Int) := by rw [show (i : Int) + 1 - 1 = i by omega]; exact IntWalk.wrap64_in _ ⟨by omega, by omega⟩
  have hw2 : wrap64 ((i : Int) + 1 + 1) = (i : Int) + 2 := by rw [show (i : Int) + 1 + 1 = i + 2 by omega]; exact IntWalk.wrap64_in _ ⟨by omega, by omega⟩
  have HF := Lib.hid hf
  rw [hA] at c2
  clear hob hom hS hmS hobS hin hA
  rw [show ((i + 1 : Nat) : Int) = (i : Int) + 1 by omega]
  generalize g i = gi at *
  go_enter Try.func17, Try.ntmps17
  go_wp2_with fail
  refine HG.out.mono ?_
  rintro e w2 ⟨A2, d2, top, rfl, o2, b2, t2, j2, m2⟩
  have hod := o2.2.1
  have hom := o2.2.2.1
  unfold maxLen at hom
  have O2 := Lib.hid o2
  have B2 := Lib.hid b2
  have J2 := Lib.hid j2
  have M2 := Lib.hid m2
  clear o2 b2 j2 m2 HG
  go_wp2_with (at_builtin; refine wpList_append_Own _ rfl _ _ _ rfl 2 t0 _ 1 8 Try.underlying22 HI.out HZ0.out HZ1.out HZ2.out rfl (by decide) A2 (i + 1) d2 _ rfl (O2.out.alloc _) ⟨w2.heap.size, 0, none⟩ 1 1 [.int .i64 ((i : Int) + 2)] rfl rfl (World.news_of_block (heap_alloc_new _ _)) (by simp [Value.oneCell']) (by decide) (by unfold maxLen; omega) (by omega) ?_; intro A3 c3 w3 ho3 hg3 hb3)
  have hr := Lib.hid (show MkO hM lo N b0 b g ms f (i + 1) W (.returned (.slice A3 (i + 1 + 1) c3)) w3 by
    obtain ⟨j1, j2, j3, ms', j4, j5⟩ := J2.out
    have mA : Mod (fun q => blk A2 = some q) w2 w3 := ((Mod.refl _ w2).alloc _).grown hg3 fun q e => .inl e
    have hMlo : hM < lo := by have := HF.out.a1; have := HF.out.a2; have := HF.out.a3; have := HF.out.a4; omega
    refine ⟨A3, c3, rfl, ?_, ?_, top, Nat.le_trans j1 mA.size, j2, fun j h1 h2 => (j3 j h1 h2).mod mA (fun e => ?_) (fun q e => .inr (B2.out q e)), ms', Fill.step (by omega) hfi j4, j5.mod mA fun q e hq => ?_⟩
    · rw [upto_next]; simpa [ic] using ho3
    · exact ((HMS.out.mono fun q _ e => .inl e).trans M2.out (fun q e => .inl e)).trans mA fun q e => .inr (by have h1 := B2.out q e; have h2 := HMS.out.size; omega)
    · have := B2.out _ e
      have := (HF.out.h2 j (by omega)).2.2
      omega
    · have e2 : hM = q := Option.some.inj e
      have := B2.out q hq
      omega)
  clear ho3 hg3 hb3
  go_wp2_with fail
  go_ret
  exact hr.out
theorem mk_p1o (bi i f : Nat) (ms : List Int) (W : World) (hb0 : Cells W b0 [FO hx hl]) (hb : Cells W bi [.int .i64 i])
    (hmk : Calls Try.prog 17 #[.int .i64 i, .pointer (some ⟨hx, 0, none⟩), .pointer (some ⟨hl, 0, none⟩)] W (MkO hM lo N b0 b g ms f i W)) :
    Calls Try.prog 25 #[.pointer (some ⟨b0, 0, none⟩), .pointer (some ⟨bi, 0, none⟩)] W (MkO hM lo N b0 b g ms f i W) := by
  have c0 : W.cell? ⟨b0, 0, none⟩ = some (.func (.func 17) #[] #[.pointer (some ⟨hx, 0, none⟩), .pointer (some ⟨hl, 0, none⟩)]) := hb0.1 0 _ rfl
  have c1 : W.cell? ⟨bi, 0, none⟩ = some (.int .i64 i) := hb.1 0 _ rfl
  have heq : ∀ (k : Fn) (fs cs : Array Value) (w : World), (binOp .eql 35 (.func k fs cs) .nilFunc).run Try.prog w = .ok (.bool false) w := run_eql_func Try.underlying35
  have HK := Lib.hid hmk
  clear hmk hb0 hb
  go_enter Try.func25, Try.ntmps25
  go_wp2_with fail
  refine HK.out.mono ?_
  rintro e w2 ⟨A3, c3, rfl, h1, h2, h3⟩
  have hr := Lib.hid (show MkO hM lo N b0 b g ms f i W (.returned (.slice A3 (i + 1) c3)) w2 from ⟨A3, c3, rfl, h1, h2, h3⟩)
  clear h1 h2 h3 HK
  go_wp2_with fail
  go_ret
  exact hr.out

def GetO (hM lo N b0 : Nat) (b g : Nat → Nat) (ms : List Int) (f i : Nat) (w : World) (e : Ending) (w' : World) : Prop :=
  ∃ A2 c2 top, e = .returned (.slice A2 (i + 1) c2) ∧ Own w' 1 A2 (i + 1) c2 (ic (upto i)) ∧ (∀ q, blk A2 = some q → top ≤ q) ∧ w.heap.size ≤ top ∧ JO hM lo N b0 b g ms f (i + 1) (i + 1) top w' ∧ Mod (Fl hM g f (i + 1)) w w'
set_option maxHeartbeats 1600000 in
theorem ord_step (hf : FixO hM hx hl b0 lo N A b g) (hNm : N ≤ 64) (i f : Nat) (w : World) (ms : List Int) (hi : i < N) (hfi : f ≤ i) (hob : OB hM hx hl b0 N A c b g w) (hom : Own w 1 (some ⟨hM, 0, none⟩) N N (ic ms)) (hlo : lo ≤ w.heap.size)
    (hcold : ∀ j, f ≤ j → j ≤ i → Cells w (g j) (cold (PK b0 (b j)))) (hhot : 0 < f → ∃ hi, Hot w (g (f - 1)) (PK b0 (b (f - 1))) (upto (f - 1)) lo hi)
    (hmk : ∀ W, OB hM hx hl b0 N A c b g W → Own W 1 (some ⟨hM, 0, none⟩) N N (ic ms) → lo ≤ W.heap.size → (∀ j, f ≤ j → j < i → Cells W (g j) (cold (PK b0 (b j)))) → (0 < f → ∃ hi, Hot W (g (f - 1)) (PK b0 (b (f - 1))) (upto (f - 1)) lo hi) →
      Calls Try.prog 17 #[.int .i64 i, .pointer (some ⟨hx, 0, none⟩), .pointer (some ⟨hl, 0, none⟩)] W (MkO hM lo N b0 b g ms f i W)) :
    Calls Try.prog 12 #[.pointer (some ⟨g i, 0, none⟩)] w (GetO hM lo N b0 b g ms f i w) := by
  have hMb : hM < b0 := by have := hf.a1; have := hf.a2; have := hf.a3; omega
  have hci := hcold i hfi (Nat.le_refl _)
  have hgi := hf.h2 i hi
  have hgl := hci.2.2
  have hFg : ¬ Fl hM g f i (g i) := fun e => by
    rcases e with e | ⟨j, h1, h2, e⟩
    · omega
    · exact (hf.apart hi (by omega : j < N)).2 (by omega) e
  have hJ : ∀ W W', (∃ top, JO hM lo N b0 b g ms f i (i + 1) top W) → Mod (fun q => q = g i) W W' → ∃ top, JO hM lo N b0 b g ms f i (i + 1) top W' := by
    rintro W W' ⟨top, j1, j2, j3, ms', j4, j5⟩ hm
    exact ⟨top, Nat.le_trans j1 hm.size, j2, fun j h1 h2 => (j3 j h1 h2).mod hm (fun e => (hf.apart (by omega : j < N) hi).2 (by omega) e) (fun q e => .inl (by omega)), ms', j4, j5.mod hm (fun q e h => by have e2 : hM = q := Option.some.inj e; omega)⟩
  refine (get_first2 (g i) (PK b0 (b i)) (.slice none 0 0) w hci (upto i) (by rw [upto_len]; omega) (Fl hM g f i) hFg (fun q e => ?_) (fun W => ∃ top, JO hM lo N b0 b g ms f i (i + 1) top W) hJ fun pl W hpl hp hW hM' => ?_).mono ?_
  · rcases e with e | ⟨j, h1, h2, e⟩
    · omega
    · have := hf.h2 j (by omega); omega
  · refine get1_p (g i) pl ⟨b0, 0, none⟩ ⟨b i, 0, none⟩ false 1 (.slice none 0 0) (by omega) _ W hp hW (upto i) (by rw [upto_len]; omega) (Fl hM g f i) hFg (fun e => ?_) (hM'.mono fun k _ e => .inl e) (by simp; omega) _ hJ fun W2 hM2 => ?_
    · rcases e with e | ⟨j, h1, h2, e⟩
      · omega
      · have := hf.h2 j (by omega); omega
    · have hm : Mod (fun q => q = g i) w W2 := (((Mod.refl _ w).alloc _).trans hM' fun k e => .inl e).trans hM2 fun k e => .inl e
      have hob2 := hob.mod hf hm (fun q e => .inr (.inl ⟨i, hi, e⟩))
      have hom2 := hom.mod hm (fun q e h => by have e2 : hM = q := Option.some.inj e; omega)
      refine (mk_p1o (b i) i f ms W2 hob2.2.2.2.1 (hob2.2.2.2.2 i hi) (hmk W2 hob2 hom2 (Nat.le_trans hlo hm.size) (fun j h1 h2 => (hcold j h1 (by omega)).mod hm fun e => (hf.apart (by omega : j < N) hi).2 (by omega) e) (fun h => ?_))).mono ?_
      · obtain ⟨hi3, h3⟩ := hhot h
        exact ⟨hi3, h3.mod hm (fun e => (hf.apart (by omega : f - 1 < N) hi).2 (by omega) e) (fun q e => .inl (by omega))⟩
      · rintro e w' ⟨A3, c3, rfl, h1, h2, h3⟩
        exact ⟨A3, c3, by rw [upto_len], by rw [upto_len]; exact h1, h2, h3⟩
  · rintro e w' ⟨A2, c2, w2, rfl, o2, hot, ⟨top, j1, j2, j3, ms', j4, j5⟩, m2, m3, b3⟩
    rw [upto_len] at o2
    have hs2 := m2.size
    refine ⟨A2, c2, w2.heap.size, by rw [upto_len], o2, b3, hs2, ⟨m3.size, by omega, fun j h1 h2 => ?_, ms', j4, j5.mod m3 (by simp)⟩, ?_⟩
    · by_cases e : j = i
      · subst e; exact (hot.up hlo (Nat.le_refl _)).mod m3 (by simp) (by simp)
      · exact ((j3 j h1 (by omega)).up (Nat.le_refl _) j1).mod m3 (by simp) (by simp)
    · refine (m2.mono fun q _ e => ?_).trans m3 (by simp)
      rcases e with e | e | ⟨j, h1, h2, e⟩
      · exact .inr ⟨i, hfi, by omega, e⟩
      · exact .inl e
      · exact .inr ⟨j, h1, by omega, e⟩
/-- the cell i, not made yet, nor those from f on; the one ahead of f is made -/
theorem ord_get (hf : FixO hM hx hl b0 lo N A b g) (hNm : N ≤ 64) : ∀ (i f : Nat) (w : World) (ms : List Int), i < N → f ≤ i → OB hM hx hl b0 N A c b g w → ms.length = N → Own w 1 (some ⟨hM, 0, none⟩) N N (ic ms) → lo ≤ w.heap.size →
    (∀ j, f ≤ j → j ≤ i → Cells w (g j) (cold (PK b0 (b j))) ∧ ms[j]? = some 0) → (0 < f → ∃ hi, Hot w (g (f - 1)) (PK b0 (b (f - 1))) (upto (f - 1)) lo hi) →
    Calls Try.prog 12 #[.pointer (some ⟨g i, 0, none⟩)] w (GetO hM lo N b0 b g ms f i w) := by
  intro i
  induction i with
  | zero =>
    intro f w ms hi hfi hob hms hom hlo hcold hhot
    obtain rfl : f = 0 := by omega
    exact ord_step hf hNm 0 0 w ms hi hfi hob hom hlo (fun j h1 h2 => (hcold j h1 h2).1) hhot fun W h1 h2 h3 _ _ => mk_ord0 hf W ms hi hNm h1 hms (hcold 0 (Nat.le_refl _) (Nat.le_refl _)).2 h2 h3
  | succ i ih =>
    intro f w ms hi hfi hob hms hom hlo hcold hhot
    have hMb : hM < b0 := by have := hf.a1; have := hf.a2; have := hf.a3; omega
    refine ord_step hf hNm (i + 1) f w ms hi hfi hob hom hlo (fun j h1 h2 => (hcold j h1 h2).1) hhot fun W h1 h2 h3 h4 h5 => ?_
    refine mk_ordS hf W ms f i hi hfi hNm h1 hms (hcold (i + 1) hfi (Nat.le_refl _)).2 h2 h3 fun W1 hm1 ho1 hob1 => ?_
    have hgj : ∀ j, j < N → ¬ g j = hM := fun j hj e => by have := hf.h2 j hj; omega
    by_cases e : f = i + 1
    · subst e
      obtain ⟨hi3, hot⟩ := h5 (by omega)
      simp only [Nat.add_sub_cancel] at hot
      refine (get_again (g i) _ W1 (upto i) lo hi3 (hot.mod hm1 (hgj i (by omega)) (fun q e => .inl (by have := hf.a4; omega))) (by rw [upto_len]; omega)).mono ?_
      rintro e w' ⟨A2, c2, rfl, o2, m2, b2⟩
      rw [upto_len] at o2
      exact ⟨A2, c2, W1.heap.size, by rw [upto_len], o2, b2, Nat.le_refl _, ⟨m2.size, Nat.le_trans h3 hm1.size, fun j h1 h2 => absurd h1 (by omega), _, Fill.refl _ _, ho1.mod m2 (by simp)⟩, m2.mono (by simp)⟩
    · refine ih f W1 (ms.set (i + 1) 1) (by omega) (by omega) hob1 (by simpa using hms) ho1 (Nat.le_trans h3 hm1.size) (fun j x1 x2 => ⟨(h4 j x1 (by omega)).mod hm1 (hgj j (by omega)), ?_⟩) (fun h => ?_)
      · rw [List.getElem?_set_ne (by omega)]
        exact (hcold j x1 (by omega)).2
      · obtain ⟨hi3, hot⟩ := h5 h
        exact ⟨hi3, hot.mod hm1 (hgj _ (by omega)) (fun q e => .inl (by have := hf.a4; omega))⟩
end
end Go.Proofs.Ytgioelaagedlbaa
