/- The walks of the package tally (has, Add, Get, Sum, Reset), each as a contract. -/
import Derived.Test.YtknaolgiameklaaBase
import Derived.Laws.LoneSync
namespace Go.Proofs.Ytknaolgiameklaa
open Go.RowKit

/-- sync/atomic.SwapT: the new number is stored, the old one handed back. -/
theorem run_call_swap {P : Program} {f : FuncId} {fn : Func} (hf : P.funcs[f]? = some fn) (hname : (fn.name == "runtime.NumGoroutine") = false) (hb : fn.body.isNone = true) (hn : Extern.findNext fn = none) (k : IntKind)
    (he : Extern.find fn = some (Extern.Atomic.swapT (.int k))) {a : Addr} {x y : Int} {w : World} (hc : w.cell? a = some (.int k x)) (hz : w.frozen? a = false) :
    (callFunc f #[.pointer (some a), .int k y]).run P w = .ok (.value (.int k x)) (w.setCell a (.int k y)) := by
  rw [run_callFunc_extern hf hname hb hn he]
  change (Sem.run P (do
    let a' ← asAddr (.pointer (some a))
    let old ← Extern.Atomic.read (.int k) a'
    store a' (.int k y) .atomic
    pure old) w).andThen _ = _
  simp [Extern.Atomic.read, asAddr, hc, hz, run_store P w a (.int k y) .atomic rfl, Result.andThen]

theorem has_in (a : Addr) (k : Int) (w : World) (h0 : 0 ≤ k) (h1 : k < 16) :
    Calls Try.prog 13 #[.pointer (some a), .int .i64 k] w fun e w' => e = .returned (.bool true) ∧ w = w' := by
  go_enter Try.func13, Try.ntmps13
  go_wp2
  go_ret
  exact ⟨rfl, rfl⟩
theorem has_low (a : Addr) (k : Int) (w : World) (h0 : k < 0) :
    Calls Try.prog 13 #[.pointer (some a), .int .i64 k] w fun e w' => e = .returned (.bool false) ∧ w = w' := by
  go_enter Try.func13, Try.ntmps13
  go_wp2
  go_ret
  exact ⟨rfl, rfl⟩
theorem has_high (a : Addr) (k : Int) (w : World) (h0 : 16 ≤ k) :
    Calls Try.prog 13 #[.pointer (some a), .int .i64 k] w fun e w' => e = .returned (.bool false) ∧ w = w' := by
  have hd : decide (k < 16) = false := by simp; omega
  go_enter Try.func13, Try.ntmps13
  go_wp2
  go_ret
  exact ⟨rfl, rfl⟩
theorem has_nil (k : Int) (w : World) :
    Calls Try.prog 13 #[.pointer none, .int .i64 k] w fun e w' => e = .returned (.bool false) ∧ w = w' := by
  go_enter Try.func13, Try.ntmps13
  go_wp2
  go_ret
  exact ⟨rfl, rfl⟩

/-! ### sixteen counts -/
def upd (c : Nat → Int) (k : Nat) (v : Int) : Nat → Int := fun j => if j = k then v else c j
theorem upd_at (c : Nat → Int) (k : Nat) (v : Int) : upd c k v k = v := by simp [upd]
theorem upd_ne (c : Nat → Int) {k j : Nat} (v : Int) (h : j ≠ k) : upd c k v j = c j := by simp [upd, h]
def sumTo (c : Nat → Int) : Nat → Int
  | 0 => 0
  | n + 1 => sumTo c n + c n
theorem sumTo_ext {c d : Nat → Int} : ∀ n, (∀ j, j < n → c j = d j) → sumTo c n = sumTo d n
  | 0, _ => rfl
  | n + 1, h => by unfold sumTo; rw [sumTo_ext n fun j hj => h j (by omega), h n (by omega)]
theorem sumTo_upd (c : Nat → Int) (k : Nat) (v : Int) : ∀ n, k < n → sumTo (upd c k v) n = sumTo c n - c k + v
  | 0, h => absurd h (by omega)
  | n + 1, h => by
    unfold sumTo
    by_cases e : k = n
    · subst e
      rw [upd_at, sumTo_ext (c := upd c k v) (d := c) k fun j hj => upd_ne c v (by omega)]
      omega
    · rw [sumTo_upd c k v n (by omega), upd_ne c v (by omega)]
      omega
theorem sumTo_bd {c : Nat → Int} {b : Int} : ∀ n : Nat, (∀ j, j < n → 0 ≤ c j ∧ c j ≤ b) → 0 ≤ sumTo c n ∧ sumTo c n ≤ n * b
  | 0, _ => by simp [sumTo]
  | n + 1, h => by
    have := sumTo_bd n fun j hj => h j (by omega)
    have := h n (by omega)
    unfold sumTo
    have e : ((n + 1 : Nat) : Int) * b = n * b + b := by rw [Int.natCast_add, Int.add_mul]; simp
    rw [e]
    omega
theorem sumTo_zero : ∀ n : Nat, sumTo (fun _ => 0) n = 0
  | 0 => rfl
  | n + 1 => by unfold sumTo; rw [sumTo_zero n]; rfl

/-- block g holds sixteen counts, none frozen -/
def Tal (w : World) (g : Nat) (c : Nat → Int) : Prop :=
  (∀ j, j < 16 → w.cell? ⟨g, j, none⟩ = some (.int .i64 (c j))) ∧ ∀ j, w.frozen? ⟨g, j, none⟩ = false
theorem Tal.set {w : World} {g : Nat} {c : Nat → Int} (h : Tal w g c) {k : Nat} (hk : k < 16) (v : Int) : Tal (w.setCell ⟨g, k, none⟩ (.int .i64 v)) g (upd c k v) := by
  refine ⟨fun j hj => ?_, fun j => by rw [World.frozen?_setCell]; exact h.2 j⟩
  by_cases e : j = k
  · subst e
    rw [upd_at]
    exact World.cell?_setCell_same (h := h.1 j hj) ..
  · rw [upd_ne c v e, World.cell?_setCell_other _ _ _ _ (by intro h; injection h with _ h; exact e h.symm)]
    exact h.1 j hj
theorem Tal.of_block {w w' : World} {g : Nat} {c : Nat → Int} (h : Tal w g c) (hb : w'.heap[g]? = w.heap[g]?) : Tal w' g c :=
  ⟨fun j hj => (World.cell?_of_block (w := w) hb).trans (h.1 j hj), fun j => (World.frozen?_of_block (w := w) hb).trans (h.2 j)⟩
theorem Tal.ext {w : World} {g : Nat} {c d : Nat → Int} (h : Tal w g c) (e : ∀ j, j < 16 → c j = d j) : Tal w g d :=
  ⟨fun j hj => by rw [← e j hj]; exact h.1 j hj, h.2⟩
theorem Tal.lt {w : World} {g : Nat} {c : Nat → Int} (h : Tal w g c) : g < w.heap.size := by
  rcases Nat.lt_or_ge g w.heap.size with hlt | hge
  · exact hlt
  · have := h.1 0 (by omega)
    simp [World.cell?, Array.getElem?_eq_none hge] at this
theorem grownBy_set {w : World} {g k : Nat} {v : Value} : w.grownBy (w.setCell ⟨g, k, none⟩ v) (some g) :=
  ⟨rfl, rfl, rfl, by simp [World.setCell], fun i _ hne => Below.heap_setCell _ _ _ _ (fun e => hne (by rw [e]))⟩

/-! ### Add, Get -/
theorem add_in (g : Nat) (k : Int) (w : World) (h0 : 0 ≤ k) (h1 : k < 16) (c : Nat → Int) (hT : Tal w g c) (hb : 0 ≤ c k.toNat ∧ c k.toNat ≤ 1000) :
    Calls Try.prog 10 #[.pointer (some ⟨g, 0, none⟩), .int .i64 k] w fun e w' =>
      e = .returned (.int .i64 (c k.toNat + 1)) ∧ Tal w' g (upd c k.toNat (c k.toNat + 1)) ∧ w.grownBy w' (some g) := by
  have hc := hT.1 k.toNat (by omega)
  have hz := hT.2 k.toNat
  have hT' := Lib.hid (hT.set (k := k.toNat) (by omega) (c k.toNat + 1))
  clear hT
  generalize c k.toNat = x at *
  obtain ⟨hb0, hb1⟩ := hb
  have hadd := fun (s : Int) (hs : (Op.intArith .add .i64 x 1).run Try.prog w = .ok (.int .i64 s) w) =>
    run_call_add (P := Try.prog) Try.func18 (by kernel_rfl) (by kernel_rfl) (by kernel_rfl) .i64 (by kernel_rfl) hc hz hs
  have hadd' := hadd (x + 1) (by simp [go_sem]; rw [IntWalk.i64_in _ (by omega)])
  clear hadd
  go_enter Try.func10, Try.ntmps10
  go_wp2_with (first
    | (go_at_call 13; refine (has_in _ _ _ h0 h1).mono ?_; rintro e w' ⟨rfl, rfl⟩)
    | (go_at_call 15; go_in))
  go_ret
  exact ⟨rfl, hT'.out, grownBy_set⟩

theorem add_low (a : Addr) (k : Int) (w : World) (h0 : k < 0) :
    Calls Try.prog 10 #[.pointer (some a), .int .i64 k] w fun e w' => e = .returned (.int .i64 0) ∧ w = w' := by
  go_enter Try.func10, Try.ntmps10
  go_wp2_with (go_at_call 13; refine (has_low _ _ _ h0).mono ?_; rintro e w' ⟨rfl, rfl⟩)
  go_ret
  exact ⟨rfl, rfl⟩
theorem add_high (a : Addr) (k : Int) (w : World) (h0 : 16 ≤ k) :
    Calls Try.prog 10 #[.pointer (some a), .int .i64 k] w fun e w' => e = .returned (.int .i64 0) ∧ w = w' := by
  go_enter Try.func10, Try.ntmps10
  go_wp2_with (go_at_call 13; refine (has_high _ _ _ h0).mono ?_; rintro e w' ⟨rfl, rfl⟩)
  go_ret
  exact ⟨rfl, rfl⟩
theorem add_nil (k : Int) (w : World) :
    Calls Try.prog 10 #[.pointer none, .int .i64 k] w fun e w' => e = .returned (.int .i64 0) ∧ w = w' := by
  go_enter Try.func10, Try.ntmps10
  go_wp2_with (go_at_call 13; refine (has_nil _ _).mono ?_; rintro e w' ⟨rfl, rfl⟩)
  go_ret
  exact ⟨rfl, rfl⟩
theorem get_in (g : Nat) (k : Int) (w : World) (h0 : 0 ≤ k) (h1 : k < 16) (c : Nat → Int) (hT : Tal w g c) :
    Calls Try.prog 11 #[.pointer (some ⟨g, 0, none⟩), .int .i64 k] w fun e w' => e = .returned (.int .i64 (c k.toNat)) ∧ w = w' := by
  have hc := hT.1 k.toNat (by omega)
  clear hT
  generalize c k.toNat = x at *
  have hload := run_call_load (P := Try.prog) Try.func19 (by kernel_rfl) (by kernel_rfl) (by kernel_rfl) .i64 (by kernel_rfl) hc
  go_enter Try.func11, Try.ntmps11
  go_wp2_with (first
    | (go_at_call 13; refine (has_in _ _ _ h0 h1).mono ?_; rintro e w' ⟨rfl, rfl⟩)
    | (go_at_call 16; go_in))
  go_ret
  exact ⟨rfl, rfl⟩
theorem get_low (a : Addr) (k : Int) (w : World) (h0 : k < 0) :
    Calls Try.prog 11 #[.pointer (some a), .int .i64 k] w fun e w' => e = .returned (.int .i64 0) ∧ w = w' := by
  go_enter Try.func11, Try.ntmps11
  go_wp2_with (go_at_call 13; refine (has_low _ _ _ h0).mono ?_; rintro e w' ⟨rfl, rfl⟩)
  go_ret
  exact ⟨rfl, rfl⟩
theorem get_high (a : Addr) (k : Int) (w : World) (h0 : 16 ≤ k) :
    Calls Try.prog 11 #[.pointer (some a), .int .i64 k] w fun e w' => e = .returned (.int .i64 0) ∧ w = w' := by
  go_enter Try.func11, Try.ntmps11
  go_wp2_with (go_at_call 13; refine (has_high _ _ _ h0).mono ?_; rintro e w' ⟨rfl, rfl⟩)
  go_ret
  exact ⟨rfl, rfl⟩
theorem get_nil (k : Int) (w : World) :
    Calls Try.prog 11 #[.pointer none, .int .i64 k] w fun e w' => e = .returned (.int .i64 0) ∧ w = w' := by
  go_enter Try.func11, Try.ntmps11
  go_wp2_with (go_at_call 13; refine (has_nil _ _).mono ?_; rintro e w' ⟨rfl, rfl⟩)
  go_ret
  exact ⟨rfl, rfl⟩

/-! ### Sum, Reset -/
theorem sum_any (g : Nat) (w : World) (c : Nat → Int) (hT : Tal w g c) (hb : ∀ j, j < 16 → 0 ≤ c j ∧ c j ≤ 1000) :
    Calls Try.prog 12 #[.pointer (some ⟨g, 0, none⟩)] w fun e w' => e = .returned (.int .i64 (sumTo c 16)) ∧ w = w' := by
  have HT := Lib.hid hT
  have HB := Lib.hid hb
  clear hT hb
  go_enter Try.func12, Try.ntmps12
  go_wp2
  go_loop [3, 5] (fun n i => ∃ k : Nat, k ≤ 16 ∧ i = .int .i64 k ∧ n = .int .i64 (sumTo c k)) (fun _ i => 16 - (intOf i).toNat)
  case atStart => exact ⟨0, by omega, rfl, rfl⟩
  case round =>
    obtain ⟨k, hk, rfl, rfl⟩ := hrel
    by_cases hlt : k < 16
    · obtain ⟨b0, b1⟩ := sumTo_bd k fun j hj => HB.out j (by omega)
      obtain ⟨b2, b3⟩ := HB.out k hlt
      have hs := Lib.hid (show sumTo c k + c k = sumTo c (k + 1) from rfl)
      generalize sumTo c k = s at *
      go_wp2_with (go_at_call 11; refine (get_in _ _ _ (by omega) (by omega) c HT.out).mono ?_; rw [Int.toNat_natCast]; rintro e w' ⟨rfl, rfl⟩)
      go_round
      case rel => exact ⟨k + 1, by omega, by go_num, by rw [hs.out]⟩
      case measure => simp [intOf]; omega
    · obtain rfl : k = 16 := by omega
      go_wp2
      go_ret
      exact ⟨rfl, rfl⟩
theorem sum_nil (w : World) :
    Calls Try.prog 12 #[.pointer none] w fun e w' => e = .returned (.int .i64 0) ∧ w = w' := by
  go_enter Try.func12, Try.ntmps12
  go_wp2
  go_loop [3, 5] (fun n i => ∃ k : Nat, k ≤ 16 ∧ i = .int .i64 k ∧ n = .int .i64 0) (fun _ i => 16 - (intOf i).toNat)
  case atStart => exact ⟨0, by omega, rfl, rfl⟩
  case round =>
    obtain ⟨k, hk, rfl, rfl⟩ := hrel
    by_cases hlt : k < 16
    · go_wp2_with (go_at_call 11; refine (get_nil _ _).mono ?_; rintro e w' ⟨rfl, rfl⟩)
      go_round
      case rel => exact ⟨k + 1, by omega, by go_num, rfl⟩
      case measure => simp [intOf]; omega
    · go_wp2
      go_ret
      exact ⟨rfl, rfl⟩

def cut0 (c : Nat → Int) (k : Nat) : Nat → Int := fun j => if j < k then 0 else c j
theorem cut0_step (c : Nat → Int) (k j : Nat) : upd (cut0 c k) k 0 j = cut0 c (k + 1) j := by
  unfold upd cut0
  by_cases e : j = k
  · subst e; simp
  · by_cases h : j < k
    · rw [if_neg e, if_pos h, if_pos (by omega)]
    · rw [if_neg e, if_neg h, if_neg (by omega)]
theorem cut0_at (c : Nat → Int) (k : Nat) : cut0 c k k = c k := by simp [cut0]

theorem reset_any (g : Nat) (w : World) (c : Nat → Int) (hT : Tal w g c) (hb : ∀ j, j < 16 → 0 ≤ c j ∧ c j ≤ 1000) :
    Calls Try.prog 9 #[.pointer (some ⟨g, 0, none⟩)] w fun e w' => e = .returned (.int .i64 (sumTo c 16)) ∧ Tal w' g (fun _ => 0) ∧ w.grownBy w' (some g) := by
  have HT := Lib.hid hT
  have HB := Lib.hid hb
  clear hT hb
  go_enter Try.func9, Try.ntmps9
  go_wp2
  go_loopw [3, 5] (fun n i wr => ∃ k : Nat, k ≤ 16 ∧ i = .int .i64 k ∧ n = .int .i64 (sumTo c k) ∧ Tal wr g (cut0 c k) ∧ w.grownBy wr (some g)) (fun _ i _ => 16 - (intOf i).toNat)
  case atStart => exact ⟨0, by omega, rfl, rfl, HT.out.ext fun j _ => by simp [cut0], World.grownBy.refl _ _⟩
  case round =>
    obtain ⟨k, hk, rfl, rfl, hT, hG⟩ := hrel
    by_cases hlt : k < 16
    · obtain ⟨b0, b1⟩ := sumTo_bd k fun j hj => HB.out j (by omega)
      obtain ⟨b2, b3⟩ := HB.out k hlt
      have hs := Lib.hid (show sumTo c k + c k = sumTo c (k + 1) from rfl)
      generalize sumTo c k = s at *
      have hc := hT.1 k hlt
      rw [cut0_at] at hc
      have hz := hT.2 k
      have hT' := Lib.hid ((hT.set hlt 0).ext fun j _ => cut0_step c k j)
      have hG' := Lib.hid (World.grownBy.trans hG (grownBy_set (k := k) (v := .int .i64 0)))
      clear hT hG
      have hswap := run_call_swap (P := Try.prog) Try.func17 (by kernel_rfl) (by kernel_rfl) (by kernel_rfl) .i64 (by kernel_rfl) (y := 0) hc hz
      go_wp2_with (first
        | (go_at_call 13; refine (has_in _ _ _ (by omega) (by omega)).mono ?_; rintro e w' ⟨rfl, rfl⟩)
        | (go_at_call 14; go_in))
      go_roundw
      case rel => exact ⟨k + 1, by omega, by go_num, by rw [hs.out], hT'.out, hG'.out⟩
      case measure => simp [intOf]; omega
    · obtain rfl : k = 16 := by omega
      go_wp2
      go_ret
      exact ⟨rfl, hT.ext fun j hj => by simp [cut0, hj], hG⟩
theorem reset_nil (w : World) :
    Calls Try.prog 9 #[.pointer none] w fun e w' => e = .returned (.int .i64 0) ∧ w = w' := by
  go_enter Try.func9, Try.ntmps9
  go_wp2
  go_loop [3, 5] (fun n i => ∃ k : Nat, k ≤ 16 ∧ i = .int .i64 k ∧ n = .int .i64 0) (fun _ i => 16 - (intOf i).toNat)
  case atStart => exact ⟨0, by omega, rfl, rfl⟩
  case round =>
    obtain ⟨k, hk, rfl, rfl⟩ := hrel
    by_cases hlt : k < 16
    · go_wp2_with (go_at_call 13; refine (has_nil _ _).mono ?_; rintro e w' ⟨rfl, rfl⟩)
      go_round
      case rel => exact ⟨k + 1, by omega, by go_num, rfl⟩
      case measure => simp [intOf]; omega
    · go_wp2
      go_ret
      exact ⟨rfl, rfl⟩

/-! ### the same with the numbers named; a new tally; begun -/
theorem add_eq (g : Nat) (k : Int) (w : World) (c : Nat → Int) (v : Int) (hT : Tal w g c) (h0 : 0 ≤ k) (h1 : k < 16) (hv : c k.toNat + 1 = v) (hb : 0 ≤ c k.toNat ∧ c k.toNat ≤ 1000) :
    Calls Try.prog 10 #[.pointer (some ⟨g, 0, none⟩), .int .i64 k] w fun e w' =>
      e = .returned (.int .i64 v) ∧ Tal w' g (upd c k.toNat v) ∧ w.grownBy w' (some g) := by
  subst hv; exact add_in g k w h0 h1 c hT hb
theorem get_eq (g : Nat) (k : Int) (w : World) (c : Nat → Int) (v : Int) (hT : Tal w g c) (h0 : 0 ≤ k) (h1 : k < 16) (hv : c k.toNat = v) :
    Calls Try.prog 11 #[.pointer (some ⟨g, 0, none⟩), .int .i64 k] w fun e w' => e = .returned (.int .i64 v) ∧ w = w' := by
  subst hv; exact get_in g k w h0 h1 c hT
theorem sum_eq (g : Nat) (w : World) (c : Nat → Int) (v : Int) (hT : Tal w g c) (hb : ∀ j, j < 16 → 0 ≤ c j ∧ c j ≤ 1000) (hv : sumTo c 16 = v) :
    Calls Try.prog 12 #[.pointer (some ⟨g, 0, none⟩)] w fun e w' => e = .returned (.int .i64 v) ∧ w = w' := by
  subst hv; exact sum_any g w c hT hb
theorem reset_eq (g : Nat) (w : World) (c : Nat → Int) (v : Int) (hT : Tal w g c) (hb : ∀ j, j < 16 → 0 ≤ c j ∧ c j ≤ 1000) (hv : sumTo c 16 = v) :
    Calls Try.prog 9 #[.pointer (some ⟨g, 0, none⟩)] w fun e w' => e = .returned (.int .i64 v) ∧ Tal w' g (fun _ => 0) ∧ w.grownBy w' (some g) := by
  subst hv; exact reset_any g w c hT hb

theorem tal_new (w : World) (t : TypeId) : Tal (w.alloc (.cells #[.int .i64 0, .int .i64 0, .int .i64 0, .int .i64 0, .int .i64 0, .int .i64 0, .int .i64 0, .int .i64 0, .int .i64 0, .int .i64 0, .int .i64 0, .int .i64 0, .int .i64 0, .int .i64 0, .int .i64 0, .int .i64 0] t)) w.heap.size (fun _ => 0) := by
  refine ⟨fun j hj => ?_, fun j => World.frozen?_alloc_at _ _ _ _ rfl⟩
  rw [World.cell?_alloc_at _ _ _ _ rfl]
  show (Array.replicate 16 (Value.int .i64 0))[j]? = _
  simp [hj]

theorem begun_any (w : World) : Calls Try.prog 8 #[] w fun e w' => e = .returned (.bool true) ∧ Below w.heap.size w w' := by
  have h0 := tal_new w 31
  have H0 := Lib.hid h0
  clear h0
  go_enter Try.func8, Try.ntmps8
  go_wp2_with fail
  refine (add_eq _ 3 _ (fun _ => 0) 1 H0.out (by decide) (by decide) (by decide) (by decide)).mono ?_
  rintro e w1 ⟨rfl, h1, g1⟩
  go_wp2_with fail
  refine (add_eq _ 3 _ _ 2 h1 (by decide) (by decide) (by decide) (by decide)).mono ?_
  rintro e w2 ⟨rfl, h2, g2⟩
  go_wp2_with fail
  refine (add_high _ 16 _ (by decide)).mono ?_
  rintro e w' ⟨rfl, rfl⟩
  go_wp2_with fail
  refine (get_eq _ 3 _ _ 2 h2 (by decide) (by decide) (by decide)).mono ?_
  rintro e w' ⟨rfl, rfl⟩
  go_wp2_with fail
  refine (add_eq _ 0 _ _ 1 h2 (by decide) (by decide) (by decide) (by decide)).mono ?_
  rintro e w3 ⟨rfl, h3, g3⟩
  go_wp2_with fail
  refine (sum_eq _ _ _ 3 h3 (by decide) (by decide)).mono ?_
  rintro e w' ⟨rfl, rfl⟩
  go_wp2_with fail
  refine (reset_eq _ _ _ 3 h3 (by decide) (by decide)).mono ?_
  rintro e w4 ⟨rfl, h4, g4⟩
  go_wp2_with fail
  refine (sum_eq _ _ _ 0 h4 (by decide) (by decide)).mono ?_
  rintro e w' ⟨rfl, rfl⟩
  go_wp2_with fail
  go_ret
  exact ⟨rfl, ((Below.refl _ _).alloc (Nat.le_refl _) _).grown (((g1.trans g2).trans g3).trans g4) (by simp) (by rintro k ⟨⟩; exact Nat.le_refl _)⟩
end Go.Proofs.Ytknaolgiameklaa
