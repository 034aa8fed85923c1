/- The cell of package once: what sync.Once does, in one goroutine; Get, where what makes is a contract. -/
import Derived.Test.YtgioelaagedlbaaSl
import Derived.Defers
import Derived.Recover
import Derived.Laws.LoneSync
import Derived.Laws.Pointers
import Derived.RegionCalls
namespace Go.Proofs.Ytgioelaagedlbaa
open Go.RowKit
attribute [local go_sem ↓] Go.wp_at_zero Go.wp_at_succ
set_option linter.unusedVariables false
set_option linter.unusedSimpArgs false

/-! ### numbers -/
def ic (l : List Int) : List Value := l.map (Value.int .i64)
theorem ic_len (l : List Int) : (ic l).length = l.length * 1 := by simp [ic]
theorem ic_one (l : List Int) : ∀ u ∈ ic l, u.oneCell' = true := by
  intro u hu
  obtain ⟨x, _, rfl⟩ := List.mem_map.1 hu
  rfl
theorem ic_at (l : List Int) {i : Nat} (hi : i < l.length) : (ic l)[i]? = some (.int .i64 l[i]) := by simp [ic, hi]
theorem info_i64 : (Try.prog.info? 2).map (fun i => (i.zero, i.size, i.bytes)) = some (some (.int .i64 0), 1, 8) := by kernel_rfl
/-- a new slice of numbers -/
def NewI (w : World) (l : List Int) (e : Ending) (w' : World) : Prop :=
  ∃ A c, e = .returned (.slice A l.length c) ∧ Own w' 1 A l.length c (ic l) ∧ Mod (fun _ => False) w w' ∧ ∀ g, blk A = some g → w.heap.size ≤ g
theorem own_none {w : World} {C n c : Nat} {xs : List Value} (h : Own w C none n c xs) : n = 0 := by
  rcases h.2.2.2 with ⟨_, h0⟩ | ⟨g, o, e, _⟩
  · have := h.2.1; omega
  · cases e

/-- slices.Clone -/
theorem cloneI_any (A : Option Addr) (l : List Int) (c : Nat) (w : World) (hl : Sl w 1 A l.length (ic l)) (h0 : A = none → l = []) (hb : l.length ≤ 1000) :
    Calls Try.prog 23 #[.slice A l.length c] w (NewI w l) := by
  obtain ⟨i0, hi0, hz0, hz1, hz2⟩ := info_parts info_i64
  have HL := Lib.hid hl
  have HI := Lib.hid hi0
  have HZ0 := Lib.hid hz0
  have HZ1 := Lib.hid hz1
  have HZ2 := Lib.hid hz2
  have one := Lib.hid (ic_one l)
  clear hl hi0 hz0 hz1 hz2
  cases A with
  | none =>
    have : l = [] := h0 rfl
    subst this
    have hq := fun (w : World) (n c : Nat) => Lib.run_eql_slice_nil (P := Try.prog) w 22 2 none n c 0 0 Try.underlying22
    go_enter Try.func23, Try.ntmps23
    go_wp2_with fail
    go_ret
    exact ⟨none, 0, rfl, Own.nil _ _, Mod.refl _ _, by simp [blk]⟩
  | some a =>
    clear h0
    have hq := fun (w : World) (n c : Nat) => Lib.run_eql_slice_nil (P := Try.prog) w 22 2 (some a) n c 0 0 Try.underlying22
    go_enter Try.func23, Try.ntmps23
    go_wp2_with (at_builtin; refine wpList_append_Sl _ rfl _ _ _ rfl 2 i0 _ 1 8 Try.underlying22 HI.out HZ0.out HZ1.out HZ2.out rfl (by decide) (some ⟨w.heap.size, 0, none⟩) 0 0 [] rfl (by exact own_new w #[] _ 1 0 rfl (by decide)) (some a) l.length c _ rfl (by exact HL.out.none_ ((Mod.refl _ _).alloc _)) one.out (by unfold maxLen; omega) (by omega) ?_; intro A2 c2 w2 ho2 hg2 hb2)
    have hr := Lib.hid (show NewI w l (.returned (.slice A2 l.length c2)) w2 by
      rw [Nat.zero_add, List.nil_append] at ho2
      refine ⟨A2, c2, rfl, ho2, ((Mod.refl _ _).alloc _).grown hg2 fun g e => .inr ?_, fun g e => ?_⟩
      · injection e with e; simp at e; omega
      · rcases hb2 with h | ⟨q, h, hq⟩
        · have := h.symm.trans e; injection this with this; simp at this; omega
        · have := h.symm.trans e; injection this with this; simp at hq; omega)
    clear ho2 hg2 hb2
    go_wp2_with fail
    go_ret
    simpa using hr.out

/-! ### atomics, the lock -/
theorem disable (w : World) : (callFunc 34 #[]).run Try.prog w = .ok (.value (.tuple #[])) w := run_call_mark0 Try.func34 (by kernel_rfl) (by kernel_rfl) (by kernel_rfl) .disable (by kernel_rfl) w
theorem enable (w : World) : (callFunc 36 #[]).run Try.prog w = .ok (.value (.tuple #[])) w := run_call_mark0 Try.func36 (by kernel_rfl) (by kernel_rfl) (by kernel_rfl) .enable (by kernel_rfl) w
theorem acquire (a : Addr) (w : World) : (callFunc 37 #[.pointer (some a)]).run Try.prog w = .ok (.value (.tuple #[])) w := run_call_marked Try.func37 (by kernel_rfl) (by kernel_rfl) (by kernel_rfl) .acquire (by kernel_rfl) a w
theorem releaseMerge (a : Addr) (w : World) : (callFunc 39 #[.pointer (some a)]).run Try.prog w = .ok (.value (.tuple #[])) w := run_call_marked Try.func39 (by kernel_rfl) (by kernel_rfl) (by kernel_rfl) .releaseMerge (by kernel_rfl) a w

def flag (b : Bool) : Int := if b then 1 else 0
theorem bload (g o : Nat) (b : Bool) (w : World) (hc : w.cell? ⟨g, o, none⟩ = some (.int .u32 (flag b))) :
    Calls Try.prog 19 #[.pointer (some ⟨g, o, none⟩)] w fun e w' => e = .returned (.bool b) ∧ w = w' := by
  cases b
  all_goals
    simp only [flag, if_true, if_false, Bool.false_eq_true] at hc
    have hl := run_call_load (P := Try.prog) Try.func26 (by kernel_rfl) (by kernel_rfl) (by kernel_rfl) .u32 (by kernel_rfl) hc
    go_enter Try.func19, Try.ntmps19
    go_wp2
    go_ret
    exact ⟨rfl, rfl⟩
theorem bstore (g o : Nat) (x : Value) (w : World) (hc : w.cell? ⟨g, o, none⟩ = some x) (hz : w.frozen? ⟨g, o, none⟩ = false) :
    Calls Try.prog 22 #[.pointer (some ⟨g, o, none⟩), .bool true] w fun e w' => e = .returned (.tuple #[]) ∧ w' = w.drew.setCell ⟨g, o, none⟩ (.int .u32 1) := by
  have hc' : w.drew.cell? ⟨g, o, none⟩ = some x := by go_simp
  have hz' : w.drew.frozen? ⟨g, o, none⟩ = false := by go_simp
  have hst := run_call_store (P := Try.prog) Try.func28 (by kernel_rfl) (by kernel_rfl) (by kernel_rfl) (by kernel_rfl) (k := .u32) (y := 1) hc' hz'
  go_enter Try.func22, Try.ntmps22
  go_wp2
  go_region_calls
  all_goals (go_end0; exact ⟨rfl, rfl⟩)
theorem bstoreD (g o : Nat) (x : Value) (u : FrameMode) (w : World) (hc : w.cell? ⟨g, o, none⟩ = some x) (hz : w.frozen? ⟨g, o, none⟩ = false) :
    CallsD Try.prog 22 #[.pointer (some ⟨g, o, none⟩), .bool true] u w fun e u' w' => u' = u ∧ (e = .returned (.tuple #[]) ∧ w' = w.drew.setCell ⟨g, o, none⟩ (.int .u32 1)) := by
  have hc' : w.drew.cell? ⟨g, o, none⟩ = some x := by go_simp
  have hz' : w.drew.frozen? ⟨g, o, none⟩ = false := by go_simp
  have hst := run_call_store (P := Try.prog) Try.func28 (by kernel_rfl) (by kernel_rfl) (by kernel_rfl) (by kernel_rfl) (k := .u32) (y := 1) hc' hz'
  go_enter_d Try.func22, Try.ntmps22
  go_wp2
  go_region_calls
  all_goals (go_end0; exact ⟨rfl, rfl⟩)
theorem unlockD (g o : Nat) (u : FrameMode) (w : World) (hc : w.cell? ⟨g, o, none⟩ = some (.int .i32 1)) (hz : w.frozen? ⟨g, o, none⟩ = false) :
    CallsD Try.prog 31 #[.pointer (some ⟨g, o, none⟩)] u w fun e u' w' => u' = u ∧ (e = .returned (.tuple #[]) ∧ w' = w.setCell ⟨g, o, none⟩ (.int .i32 0)) := by
  have hd := disable
  have he := enable
  have hr := releaseMerge
  have hadd := run_call_add (P := Try.prog) Try.func40 (by kernel_rfl) (by kernel_rfl) (by kernel_rfl) .i32 (by kernel_rfl) (y := -1) (s := 0) hc hz (by simp [go_sem]; rfl)
  have hcv := run_convert_to_unsafe (P := Try.prog) (src := 62) (dst := 66) Try.underlying62 Try.underlying66 (by kernel_rfl) hc
  go_enter_d Try.func31, Try.ntmps31
  go_wp2
  go_end0
  go_wp2
  go_end0
  exact ⟨rfl, rfl⟩
theorem lockF (g o : Nat) (w : World) (hc : w.cell? ⟨g, o, none⟩ = some (.int .i32 0)) (hz : w.frozen? ⟨g, o, none⟩ = false) :
    Calls Try.prog 30 #[.pointer (some ⟨g, o, none⟩)] w fun e w' => e = .returned (.tuple #[]) ∧ w' = w.setCell ⟨g, o, none⟩ (.int .i32 1) := by
  have hd := disable
  have he := enable
  have ha := acquire
  have hcas := run_call_cas_hit (P := Try.prog) Try.func35 (by kernel_rfl) (by kernel_rfl) (by kernel_rfl) .i32 (by kernel_rfl) (y := 1) hc hz
  have hc' : (w.setCell ⟨g, o, none⟩ (.int .i32 1)).cell? ⟨g, o, none⟩ = some (.int .i32 1) := World.cell?_setCell_same w _ _ hc
  have hcv := run_convert_to_unsafe (P := Try.prog) (src := 62) (dst := 66) Try.underlying62 Try.underlying66 (by kernel_rfl) hc'
  go_enter Try.func30, Try.ntmps30
  go_wp2
  first | go_end0 | (simp only [Exit.inBlock, Exit.then]; refine bodyPost_ret (results_none rfl _ _ _) rfl ?_) | refine bodyPost_ret (results_none rfl _ _ _) rfl ?_
  go_wp2
  go_end0
  exact ⟨rfl, rfl⟩

/-! ### a cell -/
/-- the words of a cell: is it made (d)? is it locked (m)? was it asked (a)? -/
def cv (d : Bool) (m : Int) (mk l : Value) (a : Bool) : List Value := [.int .u32 (flag d), .int .i32 m, .int .u32 0, mk, l, .int .u32 (flag a)]
def cold (mk : Value) : List Value := cv false 0 mk (.slice none 0 0) false
/-- the cell at g is made: it keeps xs, in a block from lo on and ahead of hi -/
def Hot (w : World) (g : Nat) (mk : Value) (xs : List Int) (lo hi : Nat) : Prop :=
  ∃ L c, Cells w g (cv true 0 mk (.slice L xs.length c) true) ∧ Own w 1 L xs.length c (ic xs) ∧ ∀ q, blk L = some q → lo ≤ q ∧ q < hi
theorem Hot.mod {w w' : World} {g : Nat} {mk : Value} {xs : List Int} {lo hi : Nat} {F : Nat → Prop} (h : Hot w g mk xs lo hi) (hm : Mod F w w') (hg : ¬ F g) (hF : ∀ q, F q → q < lo ∨ hi ≤ q) : Hot w' g mk xs lo hi := by
  obtain ⟨L, c, h1, h2, h3⟩ := h
  exact ⟨L, c, h1.mod hm hg, h2.mod hm fun q e hq => by have h4 := h3 q e; have h5 := hF q hq; omega, h3⟩
/-- what is kept, once it is made -/
def Rk (W0 : World) (g : Nat) (xs : List Int) (F : Nat → Prop) (J : World → Prop) (l1 : Value) (w' : World) : Prop :=
  ∃ L c, l1 = .slice L xs.length c ∧ Own w' 1 L xs.length c (ic xs) ∧ (∀ q, blk L = some q → W0.heap.size ≤ q) ∧ J w' ∧ Mod (fun q => q = g ∨ F q) W0 w'
theorem Rk.next {W0 W W' : World} {g : Nat} {xs : List Int} {F : Nat → Prop} {J : World → Prop} {l1 : Value} (hg : g < W0.heap.size) (hJ : ∀ W W', J W → Mod (fun q => q = g) W W' → J W') (h : Rk W0 g xs F J l1 W) (hm : Mod (fun q => q = g) W W') : Rk W0 g xs F J l1 W' := by
  obtain ⟨L, c, h1, h2, h3, h4, h5⟩ := h
  exact ⟨L, c, h1, h2.mod hm fun q e hq => by have h6 := h3 q e; omega, h3, hJ _ _ h4 hm, h5.trans hm fun k hk => .inl (.inl hk)⟩
/-- a cell's answer -/
def Got (w : World) (g : Nat) (mk : Value) (xs : List Int) (F : Nat → Prop) (J : World → Prop) (e : Ending) (w' : World) : Prop :=
  ∃ A c hi, e = .returned (.slice A xs.length c) ∧ Own w' 1 A xs.length c (ic xs) ∧ Hot w' g mk xs w.heap.size hi ∧ J w' ∧ Mod (fun q => q = g ∨ F q) w w' ∧ (∀ q, blk A = some q → w.heap.size ≤ q ∧ hi ≤ q) ∧ w.heap.size ≤ hi ∧ hi ≤ w'.heap.size

theorem done_any (g : Nat) (d : Bool) (m : Int) (mk l : Value) (a : Bool) (w : World) (hC : Cells w g (cv d m mk l a)) :
    Calls Try.prog 11 #[.pointer (some ⟨g, 0, none⟩)] w fun e w' => e = .returned (.bool a) ∧ w = w' := by
  have c5 : w.cell? ⟨g, 5, none⟩ = some (.int .u32 (flag a)) := hC.1 5 _ rfl
  have HL := Lib.hid (bload g 5 a w c5)
  clear hC c5
  go_enter Try.func11, Try.ntmps11
  go_wp2_with (go_at_call 19; refine HL.out.mono ?_; rintro e w' ⟨rfl, rfl⟩)
  go_ret
  exact ⟨rfl, rfl⟩
theorem done_nil (w : World) : Calls Try.prog 11 #[.pointer none] w fun e w' => e = .returned (.bool false) ∧ w = w' := by
  go_enter Try.func11, Try.ntmps11
  go_wp2_with fail
  go_ret
  exact ⟨rfl, rfl⟩
theorem get_nil (w : World) : Calls Try.prog 12 #[.pointer none] w (Only w (.slice none 0 0)) := by
  go_enter Try.func12, Try.ntmps12
  go_wp2_with fail
  go_ret
  exact ⟨rfl, (Mod.refl _ _).alloc _⟩
theorem new_any (mk : Value) (w : World) (hm : (∃ k fs cs, mk = .func (.func k) fs cs) ∨ mk = .nilFunc) : Calls Try.prog 9 #[mk] w fun e w' =>
    ∃ g, e = .returned (.pointer (some ⟨g, 0, none⟩)) ∧ Cells w' g (cold mk) ∧ w.heap.size ≤ g ∧ Mod (fun _ => False) w w' := by
  rcases hm with ⟨k, fs, cs, rfl⟩ | rfl
  all_goals
    go_enter Try.func9, Try.ntmps9
    go_wp2_with fail
    go_ret
    exact ⟨w.heap.size, rfl, Cells.new w _ _, Nat.le_refl _, (Mod.refl _ _).alloc _⟩

/-- sync.Once's slow road: what the function does is a contract; it ends as ee says -/
theorem slow_any (g : Nat) (pl : Addr) (mk l0 : Value) (w : World) (hC : Cells w g (cv false 0 mk l0 false)) (R : Value → World → Prop) (hR : ∀ l W W', R l W → Mod (fun q => q = g) W W' → R l W')
    (hf : ∀ W, Cells W g (cv false 1 mk l0 false) → Mod (fun q => q = g) w W → Calls Try.prog 21 #[.pointer (some pl)] W fun e w' => e = .returned (.tuple #[]) ∧ ∃ l1, Cells w' g (cv false 1 mk l1 true) ∧ R l1 w') :
    Calls Try.prog 27 #[.pointer (some ⟨g, 0, none⟩), .func (.func 21) #[] #[.pointer (some pl)]] w fun e w' => e = .returned (.tuple #[]) ∧ ∃ l1, Cells w' g (cv true 0 mk l1 true) ∧ R l1 w' := by
  have c1 : w.cell? ⟨g, 1, none⟩ = some (.int .i32 0) := hC.1 1 _ rfl
  have f1 := hC.2.1 1
  have C1 := hC.set_ 1 (.int .i32 1)
  have M1 := (Mod.refl (fun q => q = g) w).setCell (p := ⟨g, 1, none⟩) (.inl rfl) (.int .i32 1)
  have hl := lockF g 1 w c1 f1
  have hb := bload g 0 false (w.setCell ⟨g, 1, none⟩ (.int .i32 1)) (C1.1 0 _ rfl)
  have HF := Lib.hid (hf _ C1 M1)
  have HL := Lib.hid hl
  have HBL := Lib.hid hb
  have hnot : ∀ (x : Bool) (w : World), (Op.unary .not (.bool x)).run Try.prog w = .ok (.bool (!x)) w := fun _ _ => rfl
  clear hf hl hb C1 M1 hC c1 f1
  go_enter_defers Try.func27, Try.ntmps27
  go_wp2_with (go_at_call 30; refine HL.out.mono ?_; rintro e w' ⟨rfl, rfl⟩)
  go_wp2_with (go_at_call 19; refine HBL.out.mono ?_; rintro e w' ⟨rfl, rfl⟩)
  go_wp2_with (go_at_call 21; refine HF.out.mono ?_; rintro e w2 ⟨rfl, l1, C2, hr2⟩)
  go_wp2_with fail
  refine leaves_cons (f := 22) (args := #[.pointer (some ⟨g, 0, none⟩), .bool true]) (by simp) (by simp [go_sem]) ?_
  refine (bstoreD g 0 (.int .u32 0) .returning w2 (C2.1 0 _ rfl) (C2.2.1 0)).mono ?_
  rintro e u' w'' ⟨rfl, rfl, rfl⟩
  have C3 := C2.drew.set_ 0 (.int .u32 1)
  have r3 := hR _ _ _ hr2 ((Mod.refl (fun q => q = g) w2).drew.setCell (p := ⟨g, 0, none⟩) (.inl rfl) (.int .u32 1))
  refine leaves_cons (f := 31) (args := #[.pointer (some ⟨g, 1, none⟩)]) (by simp [settle]) (by simp [go_sem]) ?_
  refine (unlockD g 1 _ _ (C3.1 1 _ rfl) (C3.2.1 1)).mono ?_
  rintro e u' w'' ⟨rfl, rfl, rfl⟩
  have C4 := C3.set_ 1 (.int .i32 0)
  have r4 := hR _ _ _ r3 ((Mod.refl (fun q => q = g) _).setCell (p := ⟨g, 1, none⟩) (.inl rfl) (.int .i32 0))
  simp [Leaves, settle, results, Try.results27]
  exact ⟨l1, C4, r4⟩
end Go.Proofs.Ytgioelaagedlbaa
