/- The cells of a pool: how they are made. -/
import Derived.Test.YtgioelaagedlbaaOnceH
import Derived.Test.YtgioelaagedlbaaOnceB
namespace Go.Proofs.Ytgioelaagedlbaa
open Go.RowKit
attribute [local go_sem ↓] Go.wp_at_zero Go.wp_at_succ
set_option linter.unusedVariables false
set_option linter.unusedSimpArgs false

/-- what makes a pool's cell: the box of the pool's function, the box of the cell's number -/
def PK (b0 b : Nat) : Value := .func (.func 25) #[] #[.pointer (some ⟨b0, 0, none⟩), .pointer (some ⟨b, 0, none⟩)]
/-- n cells of a pool, none asked yet -/
def Pl (w : World) (b0 : Nat) (mk : Value) (b g : Nat → Nat) (n : Nat) : Prop :=
  Cells w b0 [mk] ∧ (∀ j, j < n → b0 < b j ∧ b j < g j ∧ Cells w (b j) [.int .i64 j] ∧ Cells w (g j) (cold (PK b0 (b j)))) ∧ ∀ j k, j < k → k < n → g j < b k
def pcells (g : Nat → Nat) (n : Nat) : List Value := (List.range n).map fun j => .pointer (some ⟨g j, 0, none⟩)
def up1 (b : Nat → Nat) (k x : Nat) : Nat → Nat := fun j => if j = k then x else b j
theorem up1_at (b : Nat → Nat) (k x : Nat) : up1 b k x k = x := by simp [up1]
theorem up1_ne (b : Nat → Nat) {k j : Nat} (x : Nat) (h : j ≠ k) : up1 b k x j = b j := by simp [up1, h]
theorem pcells_next (g : Nat → Nat) (n x : Nat) : pcells (up1 g n x) (n + 1) = pcells g n ++ [.pointer (some ⟨x, 0, none⟩)] := by
  unfold pcells
  rw [List.range_succ, List.map_append]
  congr 1
  · apply List.map_congr_left
    intro j hj
    rw [up1_ne g x (by have := List.mem_range.1 hj; omega)]
  · simp [up1]
theorem pcells_len (g : Nat → Nat) (n : Nat) : (pcells g n).length = n := by simp [pcells]
theorem pcells_at (g : Nat → Nat) {n j : Nat} (h : j < n) : (pcells g n)[j]? = some (.pointer (some ⟨g j, 0, none⟩)) := by simp [pcells, h]
theorem Pl.keep {w w' : World} {b0 : Nat} {mk : Value} {b g : Nat → Nat} {n : Nat} (h : Pl w b0 mk b g n) (hs : w.heap.size ≤ w'.heap.size) (h0 : w'.heap[b0]? = w.heap[b0]?) (h1 : ∀ j, j < n → w'.heap[b j]? = w.heap[b j]? ∧ w'.heap[g j]? = w.heap[g j]?) : Pl w' b0 mk b g n :=
  ⟨h.1.keep hs h0, fun j hj => ⟨(h.2.1 j hj).1, (h.2.1 j hj).2.1, (h.2.1 j hj).2.2.1.keep hs (h1 j hj).1, (h.2.1 j hj).2.2.2.keep hs (h1 j hj).2⟩, h.2.2⟩
theorem Pl.lt {w : World} {b0 : Nat} {mk : Value} {b g : Nat → Nat} {n : Nat} (h : Pl w b0 mk b g n) {j : Nat} (hj : j < n) : g j < w.heap.size := (h.2.1 j hj).2.2.2.2.2
theorem Pl.none_ {w w' : World} {b0 : Nat} {mk : Value} {b g : Nat → Nat} {n : Nat} (h : Pl w b0 mk b g n) (hm : Mod (fun _ => False) w w') : Pl w' b0 mk b g n :=
  h.keep hm.size (hm.block b0 h.1.2.2 (by simp)) fun j hj => ⟨hm.block _ (h.2.1 j hj).2.2.1.2.2 (by simp), hm.block _ (h.lt hj) (by simp)⟩
theorem Pl.snoc {w : World} {b0 : Nat} {mk : Value} {b g : Nat → Nat} {n x y : Nat} (h : Pl w b0 mk b g n) (h0 : b0 < x) (hx : ∀ j, j < n → g j < x) (hxy : x < y) (c1 : Cells w x [.int .i64 n]) (c2 : Cells w y (cold (PK b0 x))) : Pl w b0 mk (up1 b n x) (up1 g n y) (n + 1) := by
  refine ⟨h.1, fun j hj => ?_, fun j k hjk hk => ?_⟩
  · by_cases e : j = n
    · subst e
      rw [up1_at, up1_at]
      exact ⟨h0, hxy, c1, c2⟩
    · rw [up1_ne b x e, up1_ne g y e]
      exact h.2.1 j (by omega)
  · rw [up1_ne g y (by omega)]
    by_cases e : k = n
    · subst e
      rw [up1_at]
      exact hx j (by omega)
    · rw [up1_ne b x e]
      exact h.2.2 j k hjk (by omega)
theorem info_cell : (Try.prog.info? 24).map (fun i => (i.zero, i.size, i.bytes)) = some (some (.pointer none), 1, 8) := by kernel_rfl

def Made (w : World) (mk : Value) (N : Nat) (e : Ending) (w' : World) : Prop :=
  ∃ A c b0 b g, e = .returned (.slice A N c) ∧ Own w' 1 A N c (pcells g N) ∧ Pl w' b0 mk b g N ∧ w.heap.size ≤ b0 ∧ (∀ q, blk A = some q → b0 < q ∧ ∀ j, j < N → q ≠ b j ∧ q ≠ g j) ∧ Mod (fun _ => False) w w'

set_option maxHeartbeats 3200000 in
theorem pool_any (n0 : Int) (k0 : FuncId) (fs cs : Array Value) (w : World) :
    Calls Try.prog 15 #[.int .i64 n0, .func (.func k0) fs cs] w (Made w (.func (.func k0) fs cs) (min (max n0 0) 64).toNat) := by
  have hmf : ∀ (fn : Fn) (first cap : Array Value) (w : World), (Instr.makeFunc fn first cap).run Try.prog w = .ok (.func fn first cap) w := fun _ _ _ _ => rfl
  obtain ⟨i0, hi0, hz0, hz1, hz2⟩ := info_parts info_cell
  have HI := Lib.hid hi0
  have HZ0 := Lib.hid hz0
  have HZ1 := Lib.hid hz1
  have HZ2 := Lib.hid hz2
  clear hi0 hz0 hz1 hz2
  have hN : (min (max n0 0) 64).toNat ≤ 64 := by omega
  have hC0 := Lib.hid (Cells.new w #[.func (.func k0) fs cs] 35)
  have hM0 := Lib.hid ((Mod.refl (fun _ => False) w).alloc (.cells #[.func (.func k0) fs cs] 35))
  go_enter Try.func15, Try.ntmps15
  go_upto_region 2 with (fail)
  go_cut [9, 10] (fun s9 s10 wx => s9 = .int .i64 (((min (max n0 0) 64).toNat : Nat) : Int) ∧ s10 = .int .i64 0 ∧ w.alloc (.cells #[.func (.func k0) fs cs] 35) = wx)
  case first =>
    go_wp2_with fail
    all_goals
      go_meet
      refine ⟨?_, rfl, rfl⟩
      show Value.int .i64 _ = Value.int .i64 _
      congr 1
      omega
  case rest =>
    obtain ⟨rfl, rfl, rfl⟩ := hcut
    generalize (min (max n0 0) 64).toNat = N at *
    generalize w.alloc (.cells #[.func (.func k0) fs cs] 35) = wc at *
    generalize hb0 : w.heap.size = b0 at *
    have hmk : PK b0 = fun b => .func (.func 25) #[] #[.pointer (some ⟨b0, 0, none⟩), .pointer (some ⟨b, 0, none⟩)] := rfl
    go_wp2_with fail
    go_loopg [5, 6, 10] N (fun m v5 v6 v10 wr => ∃ (k : Nat) (A : Option Addr) (c : Nat) (b g : Nat → Nat), k ≤ N ∧ v10 = .int .i64 k ∧ v5 = .slice A k c ∧ Hid (Own wr 1 A k c (pcells g k)) ∧ Hid (Pl wr b0 (.func (.func k0) fs cs) b g k) ∧ Hid (∀ q, blk A = some q → b0 < q ∧ ∀ j, j < k → q ≠ b j ∧ q ≠ g j) ∧ Hid (Mod (fun _ => False) w wr) ∧ m + k = N)
    case atStart => exact ⟨0, none, 0, fun _ => 0, fun _ => 0, by omega, rfl, rfl, Lib.hid (Own.nil _ _), Lib.hid ⟨hC0.out, fun j h => absurd h (by omega), fun j k _ h => absurd h (by omega)⟩, Lib.hid (by simp [blk]), hM0, by omega⟩
    case round =>
      obtain ⟨k, A, c, b, g, hk, rfl, rfl, HO, HP, HA, HM, hm⟩ := hrel
      by_cases hlt : k < N
      · go_wp2_with fail
        refine (new_any _ _ (.inl ⟨_, _, _, rfl⟩)).mono ?_
        rintro e w1 ⟨gk, rfl, cg, hg, m1⟩
        have M1 := Lib.hid (((Mod.refl (fun _ => False) wr).alloc (.cells #[.int .i64 k] 3)).trans m1 (by simp))
        have B1 := Lib.hid ((Cells.new wr #[.int .i64 k] 3).mod m1 (by simp))
        have G1 := Lib.hid cg
        have O1 := Lib.hid (HO.out.mod M1.out (by simp))
        have P1 := Lib.hid (HP.out.none_ M1.out)
        simp at hg
        clear cg m1
        go_wp2_with (at_builtin; refine wpList_append_Own _ rfl _ _ _ rfl 24 i0 _ 1 8 Try.underlying33 HI.out HZ0.out HZ1.out HZ2.out rfl (by decide) A k c _ rfl (O1.out.alloc _) ⟨w1.heap.size, 0, none⟩ 1 1 [.pointer (some ⟨gk, 0, none⟩)] rfl rfl (World.news_of_block (heap_alloc_new _ _)) (by simp [Value.oneCell']) (by decide) (by unfold maxLen; omega) (by omega) ?_; intro A2 c2 w2 ho2 hg2 hb2)
        have hAl : ∀ q, blk A = some q → q < wr.heap.size := fun q e => HO.out.lt e
        have mA : Mod (fun q => blk A = some q) w1 w2 := ((Mod.refl _ w1).alloc _).grown hg2 (fun q e => .inl e)
        have hx0 : b0 < wr.heap.size := HP.out.1.2.2
        have hx1 : wr.heap.size < w1.heap.size := B1.out.2.2
        have hgl : gk < w1.heap.size := G1.out.2.2
        have hgj : ∀ j, j < k → g j < wr.heap.size := fun j hj => HP.out.lt hj
        have hbj : ∀ j, j < k → b j < g j := fun j hj => (HP.out.2.1 j hj).2.1
        have p2 : Pl w2 b0 (.func (.func k0) fs cs) b g k := P1.out.keep mA.size (mA.block b0 (by omega) (fun e => by have := (HA.out _ e).1; omega)) fun j hj =>
          ⟨mA.block _ (by have := hgj j hj; have := hbj j hj; omega) (fun e => ((HA.out _ e).2 j hj).1 rfl), mA.block _ (by have := hgj j hj; omega) (fun e => ((HA.out _ e).2 j hj).2 rfl)⟩
        have P2 := Lib.hid (p2.snoc hx0 hgj (show wr.heap.size < gk by omega) (B1.out.mod mA (fun e => by have := hAl _ e; omega)) (G1.out.mod mA (fun e => by have := hAl _ e; omega)))
        have O2 := Lib.hid (show Own w2 1 A2 (k + 1) c2 (pcells (up1 g k gk) (k + 1)) by rw [pcells_next]; exact ho2)
        have A2' := Lib.hid (show ∀ q, blk A2 = some q → b0 < q ∧ ∀ j, j < k + 1 → q ≠ up1 b k wr.heap.size j ∧ q ≠ up1 g k gk j from fun q e => by
          have hsz : b0 < q ∧ (q < wr.heap.size ∧ blk A = some q ∨ w1.heap.size ≤ q) := by
            rcases hb2 with h | ⟨r, h, hr⟩
            · have h2 := h.symm.trans e
              exact ⟨(HA.out q h2).1, .inl ⟨hAl q h2, h2⟩⟩
            · have h2 := h.symm.trans e
              injection h2 with h2
              subst h2
              simp at hr
              exact ⟨by omega, .inr (by omega)⟩
          refine ⟨hsz.1, fun j hj => ?_⟩
          by_cases ej : j = k
          · subst ej
            rw [up1_at, up1_at]
            rcases hsz.2 with ⟨h, _⟩ | h <;> omega
          · rw [up1_ne b _ ej, up1_ne g _ ej]
            have hjk : j < k := by omega
            rcases hsz.2 with ⟨h, h2⟩ | h
            · exact (HA.out q h2).2 j hjk
            · have := hgj j hjk; have := hbj j hjk; omega)
        have M2 := Lib.hid ((HM.out.trans M1.out (by simp)).trans mA (fun q e => .inr (by have := (HA.out q e).1; omega)))
        clear ho2 hg2 hb2 mA p2
        go_wp2_with fail
        go_roundg (N - (k + 1))
        case measure => omega
        case rel => exact ⟨k + 1, A2, c2, up1 b k wr.heap.size, up1 g k gk, by omega, by go_num, rfl, O2, P2, A2', M2, by omega⟩
      · obtain rfl : k = N := by omega
        have hr := Lib.hid (show Made w (.func (.func k0) fs cs) k (.returned (.slice A k c)) wr from ⟨A, c, b0, b, g, rfl, HO.out, HP.out, by omega, HA.out, HM.out⟩)
        go_wp2_with fail
        go_ret
        exact hr.out
end Go.Proofs.Ytgioelaagedlbaa
