/- Proved: curfewlaw6.OncePool answers true for every number and every list of asks, and leaves what came in as it was. No condition. -/
import Derived.Test.YtgioelaagedlbaaOnceQ
namespace Go.Proofs.Ytgioelaagedlbaa.oncePool
open Go.ChangeShapes Go.WideShapes Go.ChangeAt Go.RowKit
set_option linter.unusedVariables false
set_option linter.unusedSimpArgs false
attribute [local go_sem ↓] Go.wp_at_zero Go.wp_at_succ

theorem pick_m (a : Int) (n : Nat) (h0 : 0 < n) (hn : n ≤ 64) : ∃ k : Nat, k < n ∧ (wrap64 (a.tmod (n : Int) + n)).tmod (n : Int) = k := by
  have h1 := Int.tmod_lt_of_pos a (show 0 < (n : Int) by omega)
  have h2 := Int.lt_tmod_of_pos a (show 0 < (n : Int) by omega)
  generalize a.tmod (n : Int) = b at *
  have e1 : wrap64 (b + (n : Int)) = b + n := IntWalk.wrap64_in _ ⟨by omega, by omega⟩
  rw [e1]
  clear e1
  have h3 := Int.tmod_lt_of_pos (b + (n : Int)) (show 0 < (n : Int) by omega)
  have h4 : 0 ≤ (b + (n : Int)).tmod (n : Int) := Int.tmod_nonneg _ (by omega)
  generalize (b + (n : Int)).tmod (n : Int) = r at *
  exact ⟨r.toNat, by omega, by omega⟩

set_option maxRecDepth 100000 in
set_option maxHeartbeats 6400000 in
theorem walk (a0 : Int) (a1 : Option Addr) (len1 cap1 : Nat) (z1 : Nat → Int) (w : World) (w0 : (Lit.int .i64 a0).wf = true) (w1 : IntsAt .i64 w a1 len1 z1) :
    Calls Try.prog 6 #[.int .i64 a0, .slice a1 len1 cap1] w fun e w' => e = .returned (.bool true) ∧ Below w.heap.size w w' := by
  have hmf : ∀ (fn : Fn) (first cap : Array Value) (w : World), (Instr.makeFunc fn first cap).run Try.prog w = .ok (.func fn first cap) w := fun _ _ _ _ => rfl
  have hnot : ∀ (x : Bool) (w : World), (Op.unary .not (.bool x)).run Try.prog w = .ok (.bool (!x)) w := fun _ _ => rfl
  have ha0 := i64_bd w0
  have HZ := Lib.hid w1
  have hb1 := w1.1
  unfold maxLen at hb1
  clear w0 w1
  go_enter Try.func6, Try.ntmps6
  go_wp2_with fail
  refine (begun_any _).mono ?_
  rintro e wb ⟨rfl, hb⟩
  have HB := Lib.hid hb
  clear hb
  go_upto_if 18 with (fail)
  go_cut [0] (fun s0 wx => ∃ n1 : Int, s0 = .int .i64 n1 ∧ n1 ≤ 70 ∧ -9223372036854775808 ≤ n1 ∧ wb = wx)
  case first =>
    by_cases h70 : 70 < a0
    · go_wp2_with fail
      go_meet
      exact ⟨70, rfl, by omega, by omega, rfl⟩
    · go_wp2_with fail
      go_meet
      exact ⟨a0, rfl, by omega, by omega, rfl⟩
  case rest =>
    obtain ⟨n1, rfl, hn1, hn0, rfl⟩ := hcut
    go_wp2_with fail
    change Calls _ _ _ (wb.alloc (.cells (ic (am (List.replicate 64 false))).toArray 32)) _
    have hm0 := Lib.hid (Cells.new wb (ic (am (List.replicate 64 false))).toArray 32)
    have B0 := Lib.hid (Mod.below HB.out ((Mod.refl (fun _ => False) wb).alloc (.cells (ic (am (List.replicate 64 false))).toArray 32)) (by simp))
    have hbw := HB.out.size
    generalize wb.alloc (.cells (ic (am (List.replicate 64 false))).toArray 32) = wm at *
    generalize wb.heap.size = hm at *
    refine (pool_any _ _ _ _ _).mono ?_
    rintro e w1 ⟨A, c, b0, b, g, rfl, o1, p1, hb0, hA, m1⟩
    have hlm : hm < wm.heap.size := hm0.out.2.2
    have H1 := Lib.hid (hm0.out.mod m1 (by simp))
    have B1 := Lib.hid (Mod.below B0.out m1 (by simp))
    have hcl := o1.2.1
    have hcm := o1.2.2.1
    unfold maxLen at hcm
    have O1 := Lib.hid o1
    have P1 := Lib.hid p1
    have HA1 := Lib.hid (show ∀ q, blk A = some q → b0 < q ∧ q < w1.heap.size ∧ ∀ j, j < (min (max n1 0) 64).toNat → q ≠ b j ∧ q ≠ g j from fun q e => ⟨(hA q e).1, o1.lt e, (hA q e).2⟩)
    have hbl : b0 < w1.heap.size := p1.1.2.2
    clear o1 p1 hA m1 hm0 B0
    go_upto_region 8 with (fail)
    go_cut [0] (fun s0 wx => s0 = .int .i64 (((min (max n1 0) 64).toNat : Nat) : Int) ∧ w1 = wx)
    case first =>
      go_wp2_with fail
      all_goals
        go_meet
        refine ⟨?_, rfl⟩
        show Value.int .i64 _ = Value.int .i64 _
        congr 1
        omega
    case rest =>
      obtain ⟨rfl, rfl⟩ := hcut
      have hN : (min (max n1 0) 64).toNat ≤ 64 := by omega
      generalize (min (max n1 0) 64).toNat = N at *
      obtain ⟨ha, hha⟩ : ∃ ha, ha = w1.heap.size := ⟨_, rfl⟩
      have hfx : Fix hm b0 ha (ha + 1) N A b g := ⟨by omega, fun j hj => ⟨(P1.out.2.1 j hj).1, (P1.out.2.1 j hj).2.1, by rw [hha]; exact P1.out.lt hj⟩, P1.out.2.2, by omega, fun q e => by rw [hha]; exact HA1.out q e, by omega⟩
      have hps : PS hm b0 ha (ha + 1) N A c b g (List.replicate 64 false) (w1.alloc (.cells (bc (List.replicate 64 false)).toArray 36)) := by
        refine ⟨by rw [hha]; exact Cells.new w1 (bc (List.replicate 64 false)).toArray _, H1.out.alloc _, O1.out.alloc _, P1.out.1.alloc _, fun j hj => (P1.out.2.1 j hj).2.2.1.alloc _, fun j hj a e => .inr ⟨?_, (P1.out.2.1 j hj).2.2.2.alloc _⟩⟩
        rw [List.getElem?_replicate] at e
        split at e
        · injection e with e; exact e.symm
        · cases e
      have HFX := Lib.hid hfx
      have HPS := Lib.hid hps
      have B2 := Lib.hid (Mod.below B1.out ((Mod.refl (fun _ => False) w1).alloc (.cells (bc (List.replicate 64 false)).toArray 36)) (by simp))
      have hsz : ha + 1 ≤ (w1.alloc (.cells (bc (List.replicate 64 false)).toArray 36)).heap.size := by simp [hha]
      have hwha : w.heap.size ≤ ha ∧ w.heap.size ≤ hm := by have := B1.out.size; omega
      clear hfx hps H1 O1 P1 HA1 B1
      go_wp2_with fail
      rw [← hha]
      clear hha
      go_loopg [9, 10, 11] 40 (fun m v9 v10 v11 wr => ∃ (i : Nat) (al : List Bool), i ≤ 40 ∧ i ≤ len1 ∧ v9 = .int .i64 i ∧ Hid (al.length = 64) ∧ Hid (PS hm b0 ha (ha + 1) N A c b g al wr) ∧ Hid (Below w.heap.size w wr) ∧ Hid (ha + 1 ≤ wr.heap.size) ∧ m + i = 40)
      case atStart => exact ⟨0, List.replicate 64 false, by omega, by omega, rfl, Lib.hid (by simp), HPS, B2, Lib.hid hsz, by omega⟩
      case round =>
        obtain ⟨i, al, hi, hil, rfl, HAL, HS, HBW, HSZ, hm2⟩ := hrel
        by_cases hin : i < len1 ∧ i < 40 ∧ 0 < N
        · obtain ⟨h1, h2, h3⟩ := hin
          obtain ⟨bb, ob, hA1, hbb, q0, hwf⟩ := HZ.out.at_ h1
          have q1 := (HBW.out.cell (p := ⟨bb, ob + i, none⟩) hbb).trans q0
          have HA1 := Lib.hid hA1
          have i0 : (0 : Int) ≤ (i : Int) := by omega
          have i1 : (i : Int) < (len1 : Int) := by omega
          have hN0 : ¬ (N : Int) = 0 := by omega
          have HPick := Lib.hid (pick_m (z1 i) N (by omega) hN)
          clear hwf q0
          generalize z1 i = x at *
          rw [hA1]
          clear hA1
          go_upto_region 15 with (fail)
          go_cut [10] (fun s10 wx => ∃ k : Nat, k < N ∧ s10 = .int .i64 k ∧ wr = wx)
          case first =>
            go_wp2_with fail
            go_meet
            obtain ⟨k, hk, hke⟩ := HPick.out
            exact ⟨k, hk, by rw [hke], rfl⟩
          case rest =>
            obtain ⟨k, hk, rfl, rfl⟩ := hcut
            clear HPick q1
            have hc0 := HS.out.1
            have hw1 := hc0.set_ k (.bool true)
            have hm1 := (Mod.refl (fun q => q = ha) wr).setCell (p := ⟨ha, k, none⟩) (.inl rfl) (.bool true)
            have hget := HS.out.get HFX.out hm1 HSZ.out hk hN HAL.out (by rw [show bc (al.set k true) = (bc al).set k (.bool true) from List.map_set]; exact hw1)
            have x0 : wr.cell? ⟨ha, k, none⟩ = some (.bool (al[k]'(by have := HAL.out; omega))) := hc0.1 k _ (by simp [bc, show k < al.length by have := HAL.out; omega])
            have f0 := hc0.2.1 k
            obtain ⟨gA, oA, hAA, hgA, hAx⟩ := HS.out.2.2.1.at_ (pcells_at g hk)
            have x1 : (wr.setCell ⟨ha, k, none⟩ (.bool true)).cell? ⟨gA, oA + k, none⟩ = some (.pointer (some ⟨g k, 0, none⟩)) := hm1.cell hAx (fun e => by have h5 := (HFX.out.h5 gA (by rw [hAA]; rfl)).2.1; have e2 : gA = ha := e; omega)
            have HG := Lib.hid hget
            have HM1 := Lib.hid hm1
            have HAA := Lib.hid hAA
            have hk64 : (k : Int) < 64 := by omega
            have k0 : (0 : Int) ≤ (k : Int) := by omega
            have k1 : (k : Int) < (N : Int) := by omega
            have hsq : (0 : Int) ≤ (k : Int) * k ∧ (k : Int) * k < 9223372036854775808 := by
              have h1 : (k : Int) * k ≤ 63 * 63 := Int.mul_le_mul (by omega) (by omega) (by omega) (by omega)
              have h2 : (0 : Int) ≤ (k : Int) * k := Int.mul_nonneg (by omega) (by omega)
              omega
            have hw1 : wrap64 ((k : Int) * k) = (k : Int) * k := IntWalk.wrap64_in _ ⟨by omega, by omega⟩
            have HF2 := Lib.hid (HFX.out.h2 k hk)
            clear hget hm1 hAx hc0
            generalize al[k]'(by have := HAL.out; omega) = ak at *
            generalize g k = gk at *
            rw [hAA]
            clear hAA
            go_wp2_with fail
            refine HG.out.mono ?_
            rintro e w2 ⟨A2, c2, rfl, o2, s2, m2⟩
            obtain ⟨gx, ox, hx, hgx, y0⟩ := o2.at_ (j := 0) (u := .int .i64 k) rfl
            simp only [Nat.add_zero] at y0
            obtain ⟨gx', ox', hx', _, y1⟩ := o2.at_ (j := 1) (u := .int .i64 ((k : Int) * k)) rfl
            rw [hx] at hx'
            injection hx' with hx'
            injection hx' with e1 e2
            subst e1 e2
            have S2 := Lib.hid s2
            have B3 := Lib.hid (Mod.below (Mod.below HBW.out HM1.out (fun q e => by omega)) m2 (fun q e => by have := HF2.out; have := HFX.out.h1; omega))
            have Z3 := Lib.hid (show ha + 1 ≤ w2.heap.size from by have := HSZ.out; have := HM1.out.size; have := m2.size; omega)
            have AL2 := Lib.hid (show (al.set k true).length = 64 by rw [List.length_set]; exact HAL.out)
            clear o2 s2 m2 x0 x1 f0 HG
            rw [hx]
            rw [← HAA.out, ← HA1.out]
            go_wp2_with fail
            go_roundg (40 - (i + 1))
            case measure => omega
            case rel => exact ⟨i + 1, al.set k true, by omega, by omega, by go_num, AL2, S2, B3, Z3, by omega⟩
        · have hend : (len1 ≤ i ∨ (i < len1 ∧ 40 ≤ i)) ∨ (i < len1 ∧ i < 40 ∧ N = 0) := by omega
          clear hin HB B2 HPS
          rcases hend with (h1 | ⟨h1, h2⟩) | ⟨h1, h2, h3⟩
          rotate_left 2
          · subst h3
            go_wp2_with fail
            obtain ⟨wo, rfl⟩ : ∃ wo : World, wo = wr := ⟨_, rfl⟩
            go_loopg [12, 13] 0 (fun m v12 v13 wr => v12 = .int .i64 0 ∧ wo = wr ∧ m = 0)
            case atStart => exact ⟨rfl, rfl, rfl⟩
            case round =>
              obtain ⟨rfl, rfl, _⟩ := hrel
              go_wp2_with fail
              go_ret
              exact ⟨rfl, HBW.out⟩
          all_goals
            go_wp2_with fail
            obtain ⟨wo, rfl⟩ : ∃ wo : World, wo = wr := ⟨_, rfl⟩
            go_loopg [12, 13] N (fun m v12 v13 wr => ∃ i : Nat, i ≤ N ∧ v12 = .int .i64 i ∧ Hid (Mod (fun _ => False) wo wr) ∧ m + i = N)
            case atStart => exact ⟨0, by omega, rfl, Lib.hid (Mod.refl _ _), by omega⟩
            case round =>
              obtain ⟨i, hi, rfl, HM, hm3⟩ := hrel
              by_cases hlt : i < N
              · have hil : i < al.length := by have := HAL.out; omega
                obtain ⟨p1, p2, p3, p4, p5, p6⟩ := HS.out
                have x0 : wr.cell? ⟨ha, i, none⟩ = some (.bool al[i]) := (p1.mod HM.out (by simp)).1 i _ (by simp [bc, hil])
                have x1 : wr.cell? ⟨hm, i, none⟩ = some (.int .i64 (if al[i] then 1 else 0)) := (p2.mod HM.out (by simp)).1 i _ (by simp [ic, am, hil])
                obtain ⟨gA, oA, hAA, hgA, x2⟩ := (p3.mod HM.out (by simp)).at_ (pcells_at g hlt)
                have hd : Calls Try.prog 11 #[.pointer (some ⟨g i, 0, none⟩)] wr.drew fun e w' => e = .returned (.bool al[i]) ∧ wr.drew = w' := by
                  rcases (p6 i hlt al[i] (List.getElem?_eq_getElem hil)).mod HM.out.drew (by simp) (by simp) with ⟨ht, hi3, ⟨L, cL, hc, _⟩, _⟩ | ⟨ht, hc⟩
                  · rw [ht]; exact done_any (g i) _ _ _ _ _ _ hc
                  · rw [ht]; exact done_any (g i) _ _ _ _ _ _ hc
                have HD := Lib.hid hd
                have HAA := Lib.hid hAA
                have i0 : (0 : Int) ≤ (i : Int) := by omega
                have i1 : (i : Int) < (N : Int) := by omega
                have i64 : (i : Int) < 64 := by omega
                clear hd p1 p2 p3 p4 p5 p6
                generalize g i = gi at *
                rw [hAA]
                clear hAA
                cases hal : al[i]
                · rw [hal] at HD x0 x1
                  simp only [if_false, Bool.false_eq_true] at x1
                  go_wp2_with fail
                  refine wp_region_held_drew (S := (fun w' => w'.cell? ⟨hm, i, none⟩ = some (.int .i64 0) ∧ w'.cell? ⟨gA, oA + i, none⟩ = some (.pointer (some ⟨gi, 0, none⟩)) ∧ w'.cell? ⟨ha, i, none⟩ = some (.bool false))) (by kernel_rfl) (by go_keep) (fun hHeld => ?_)
                  refine wpAnyH_take (i := 0) (oi := _) (v := ?_) (by simp only [List.getElem?_toArray, List.getElem?_cons_succ, List.getElem?_cons_zero]; rfl) (by kernel_rfl) (by kernel_rfl) (by kernel_rfl) (by intro _ _ _ h; exact h) (Or.inl ⟨by rfl, ?_⟩) (by assumption) ?_
                  rotate_left 1
                  · (intro w hSw; (try dsimp only at hSw); go_simp; try with_reducible rfl)
                  try simp only [Act.put, List.setIfInBounds_toArray, List.set_cons_zero, List.set_cons_succ]
                  refine wpAnyH_take (i := 1) (oi := _) (v := ?_) (by simp only [List.getElem?_toArray, List.getElem?_cons_succ, List.getElem?_cons_zero]; rfl) (by kernel_rfl) (by kernel_rfl) (by kernel_rfl) (by intro _ _ _ h; exact h) (Or.inl ⟨by rfl, ?_⟩) (by assumption) ?_
                  rotate_left 1
                  · (intro w hSw; (try dsimp only at hSw); go_simp; try with_reducible rfl)
                  try simp only [Act.put, List.setIfInBounds_toArray, List.set_cons_zero, List.set_cons_succ]
                  refine wpAnyH_take (i := 2) (oi := _) (v := ?_) (by simp only [List.getElem?_toArray, List.getElem?_cons_succ, List.getElem?_cons_zero]; rfl) (by kernel_rfl) (by kernel_rfl) (by kernel_rfl) (by intro _ _ _ h; exact h) (Or.inl ⟨by rfl, ?_⟩) (by assumption) ?_
                  rotate_left 1
                  · (intro w hSw; (try dsimp only at hSw); go_simp; try with_reducible rfl)
                  try simp only [Act.put, List.setIfInBounds_toArray, List.set_cons_zero, List.set_cons_succ]
                  refine wpAnyH_take (i := 3) (oi := _) (v := ?_) (by simp only [List.getElem?_toArray, List.getElem?_cons_succ, List.getElem?_cons_zero]; rfl) (by kernel_rfl) (by kernel_rfl) (by kernel_rfl) (by intro _ _ _ h; exact h) (Or.inl ⟨by rfl, ?_⟩) (by assumption) ?_
                  rotate_left 1
                  · (intro w hSw; (try dsimp only at hSw); go_simp; try with_reducible rfl)
                  try simp only [Act.put, List.setIfInBounds_toArray, List.set_cons_zero, List.set_cons_succ]
                  refine wpAnyH_take (i := 4) (oi := _) (v := ?_) (by simp only [List.getElem?_toArray, List.getElem?_cons_succ, List.getElem?_cons_zero]; rfl) (by kernel_rfl) (by kernel_rfl) (by kernel_rfl) (by intro _ _ _ h; exact h) (Or.inl ⟨by rfl, ?_⟩) (by assumption) ?_
                  rotate_left 1
                  · (intro w hSw; (try dsimp only at hSw); go_simp; try with_reducible rfl)
                  try simp only [Act.put, List.setIfInBounds_toArray, List.set_cons_zero, List.set_cons_succ]
                  refine wpAnyH_take (i := 5) (oi := _) (v := ?_) (by simp only [List.getElem?_toArray, List.getElem?_cons_succ, List.getElem?_cons_zero]; rfl) (by kernel_rfl) (by kernel_rfl) (by kernel_rfl) (by intro _ _ _ h; exact h) (Or.inl ⟨by rfl, ?_⟩) (by assumption) ?_
                  rotate_left 1
                  · (intro w hSw; (try dsimp only at hSw); go_simp; try with_reducible rfl)
                  try simp only [Act.put, List.setIfInBounds_toArray, List.set_cons_zero, List.set_cons_succ]
                  refine wpAnyH_take (i := 6) (oi := _) (v := ?_) (by simp only [List.getElem?_toArray, List.getElem?_cons_succ, List.getElem?_cons_zero]; rfl) (by kernel_rfl) (by kernel_rfl) (by kernel_rfl) (by intro _ _ _ h; exact h) (Or.inl ⟨by rfl, ?_⟩) (by assumption) ?_
                  rotate_left 1
                  · (intro w hSw; (try dsimp only at hSw); go_simp; try with_reducible rfl)
                  try simp only [Act.put, List.setIfInBounds_toArray, List.set_cons_zero, List.set_cons_succ]
                  refine wpAnyH_take (i := 7) (oi := _) (v := ?_) (by simp only [List.getElem?_toArray, List.getElem?_cons_succ, List.getElem?_cons_zero]; rfl) (by kernel_rfl) (by kernel_rfl) (by kernel_rfl) (by intro _ _ _ h; exact h) (Or.inl ⟨by rfl, ?_⟩) (by assumption) ?_
                  rotate_left 1
                  · (intro w hSw; (try dsimp only at hSw); go_simp; try with_reducible rfl)
                  try simp only [Act.put, List.setIfInBounds_toArray, List.set_cons_zero, List.set_cons_succ]
                  refine wpAnyH_take (i := 8) (oi := _) (v := ?_) (by simp only [List.getElem?_toArray, List.getElem?_cons_succ, List.getElem?_cons_zero]; rfl) (by kernel_rfl) (by kernel_rfl) (by kernel_rfl) (by intro _ _ _ h; exact h) (Or.inl ⟨by rfl, ?_⟩) (by assumption) ?_
                  rotate_left 1
                  · (intro w hSw; (try dsimp only at hSw); go_simp; try with_reducible rfl)
                  try simp only [Act.put, List.setIfInBounds_toArray, List.set_cons_zero, List.set_cons_succ]
                  refine wpAnyH_take (i := 9) (oi := _) (v := ?_) (by simp only [List.getElem?_toArray, List.getElem?_cons_succ, List.getElem?_cons_zero]; rfl) (by kernel_rfl) (by kernel_rfl) (by kernel_rfl) (by intro _ _ _ h; exact h) (Or.inl ⟨by rfl, ?_⟩) (by assumption) ?_
                  rotate_left 1
                  · (intro w hSw; (try dsimp only at hSw); go_simp; try with_reducible rfl)
                  try simp only [Act.put, List.setIfInBounds_toArray, List.set_cons_zero, List.set_cons_succ]
                  refine wpAnyH_take (i := 11) (oi := _) (v := ?_) (by simp only [List.getElem?_toArray, List.getElem?_cons_succ, List.getElem?_cons_zero]; rfl) (by kernel_rfl) (by kernel_rfl) (by kernel_rfl) (by intro _ _ _ h; exact h) (Or.inl ⟨by rfl, ?_⟩) (by assumption) ?_
                  rotate_left 1
                  · (intro w hSw; (try dsimp only at hSw); go_simp; try with_reducible rfl)
                  try simp only [Act.put, List.setIfInBounds_toArray, List.set_cons_zero, List.set_cons_succ]
                  refine wpAnyH_take (i := 12) (oi := _) (v := ?_) (by simp only [List.getElem?_toArray, List.getElem?_cons_succ, List.getElem?_cons_zero]; rfl) (by kernel_rfl) (by kernel_rfl) (by kernel_rfl) (by intro _ _ _ h; exact h) (Or.inl ⟨by rfl, ?_⟩) (by assumption) ?_
                  rotate_left 1
                  · (intro w hSw; (try dsimp only at hSw); go_simp; try with_reducible rfl)
                  try simp only [Act.put, List.setIfInBounds_toArray, List.set_cons_zero, List.set_cons_succ]
                  refine wpAnyH_take (i := 13) (oi := _) (v := ?_) (by simp only [List.getElem?_toArray, List.getElem?_cons_succ, List.getElem?_cons_zero]; rfl) (by kernel_rfl) (by kernel_rfl) (by kernel_rfl) (by intro _ _ _ h; exact h) (Or.inl ⟨by rfl, ?_⟩) (by assumption) ?_
                  rotate_left 1
                  · (intro w hSw; (try dsimp only at hSw); go_simp; try with_reducible rfl)
                  try simp only [Act.put, List.setIfInBounds_toArray, List.set_cons_zero, List.set_cons_succ]
                  refine wpAnyH_ready (rs := [10]) (by kernel_rfl) (by simp) ?_
                  refine AllReadyH.cons (by simp only [List.getElem?_toArray, List.getElem?_cons_succ, List.getElem?_cons_zero]; rfl) (fun K hK => ?_) AllReadyH.nil
                  go_simp
                  (go_at_call 11; (with_reducible refine (HD.out).mono ?_); rintro e z ⟨rfl, rfl⟩)
                  refine hK.out _ _ (by go_keep) (fun hHeld => ?_)
                  clear hK K
                  try simp only [Act.put, List.setIfInBounds_toArray, List.set_cons_zero, List.set_cons_succ]
                  refine wpAnyH_take (i := 14) (oi := _) (v := ?_) (by simp only [List.getElem?_toArray, List.getElem?_cons_succ, List.getElem?_cons_zero]; rfl) (by kernel_rfl) (by kernel_rfl) (by kernel_rfl) (by intro _ _ _ h; exact h) (Or.inl ⟨by rfl, ?_⟩) (by assumption) ?_
                  rotate_left 1
                  · (intro w hSw; (try dsimp only at hSw); go_simp; try with_reducible rfl)
                  try simp only [Act.put, List.setIfInBounds_toArray, List.set_cons_zero, List.set_cons_succ]
                  refine wpAnyH_take (i := 15) (oi := _) (v := ?_) (by simp only [List.getElem?_toArray, List.getElem?_cons_succ, List.getElem?_cons_zero]; rfl) (by kernel_rfl) (by kernel_rfl) (by kernel_rfl) (by intro _ _ _ h; exact h) (Or.inl ⟨by rfl, ?_⟩) (by assumption) ?_
                  rotate_left 1
                  · (intro w hSw; (try dsimp only at hSw); go_simp; try with_reducible rfl)
                  try simp only [Act.put, List.setIfInBounds_toArray, List.set_cons_zero, List.set_cons_succ]
                  refine wpAnyH_done (by kernel_rfl) ?_ _
                  go_wp2_with fail
                  rw [← HAA.out]
                  go_roundg (N - (i + 1))
                  case measure => omega
                  case rel => exact ⟨i + 1, by omega, by go_num, Lib.hid HM.out.drew, by omega⟩
                · rw [hal] at HD x0 x1
                  simp only [if_true] at x1
                  go_wp2_with fail
                  refine wp_region_held_drew (S := (fun w' => w'.cell? ⟨hm, i, none⟩ = some (.int .i64 1) ∧ w'.cell? ⟨gA, oA + i, none⟩ = some (.pointer (some ⟨gi, 0, none⟩)) ∧ w'.cell? ⟨ha, i, none⟩ = some (.bool true))) (by kernel_rfl) (by go_keep) (fun hHeld => ?_)
                  refine wpAnyH_take (i := 0) (oi := _) (v := ?_) (by simp only [List.getElem?_toArray, List.getElem?_cons_succ, List.getElem?_cons_zero]; rfl) (by kernel_rfl) (by kernel_rfl) (by kernel_rfl) (by intro _ _ _ h; exact h) (Or.inl ⟨by rfl, ?_⟩) (by assumption) ?_
                  rotate_left 1
                  · (intro w hSw; (try dsimp only at hSw); go_simp; try with_reducible rfl)
                  try simp only [Act.put, List.setIfInBounds_toArray, List.set_cons_zero, List.set_cons_succ]
                  refine wpAnyH_take (i := 1) (oi := _) (v := ?_) (by simp only [List.getElem?_toArray, List.getElem?_cons_succ, List.getElem?_cons_zero]; rfl) (by kernel_rfl) (by kernel_rfl) (by kernel_rfl) (by intro _ _ _ h; exact h) (Or.inl ⟨by rfl, ?_⟩) (by assumption) ?_
                  rotate_left 1
                  · (intro w hSw; (try dsimp only at hSw); go_simp; try with_reducible rfl)
                  try simp only [Act.put, List.setIfInBounds_toArray, List.set_cons_zero, List.set_cons_succ]
                  refine wpAnyH_take (i := 2) (oi := _) (v := ?_) (by simp only [List.getElem?_toArray, List.getElem?_cons_succ, List.getElem?_cons_zero]; rfl) (by kernel_rfl) (by kernel_rfl) (by kernel_rfl) (by intro _ _ _ h; exact h) (Or.inl ⟨by rfl, ?_⟩) (by assumption) ?_
                  rotate_left 1
                  · (intro w hSw; (try dsimp only at hSw); go_simp; try with_reducible rfl)
                  try simp only [Act.put, List.setIfInBounds_toArray, List.set_cons_zero, List.set_cons_succ]
                  refine wpAnyH_take (i := 3) (oi := _) (v := ?_) (by simp only [List.getElem?_toArray, List.getElem?_cons_succ, List.getElem?_cons_zero]; rfl) (by kernel_rfl) (by kernel_rfl) (by kernel_rfl) (by intro _ _ _ h; exact h) (Or.inl ⟨by rfl, ?_⟩) (by assumption) ?_
                  rotate_left 1
                  · (intro w hSw; (try dsimp only at hSw); go_simp; try with_reducible rfl)
                  try simp only [Act.put, List.setIfInBounds_toArray, List.set_cons_zero, List.set_cons_succ]
                  refine wpAnyH_take (i := 4) (oi := _) (v := ?_) (by simp only [List.getElem?_toArray, List.getElem?_cons_succ, List.getElem?_cons_zero]; rfl) (by kernel_rfl) (by kernel_rfl) (by kernel_rfl) (by intro _ _ _ h; exact h) (Or.inl ⟨by rfl, ?_⟩) (by assumption) ?_
                  rotate_left 1
                  · (intro w hSw; (try dsimp only at hSw); go_simp; try with_reducible rfl)
                  try simp only [Act.put, List.setIfInBounds_toArray, List.set_cons_zero, List.set_cons_succ]
                  refine wpAnyH_take (i := 5) (oi := _) (v := ?_) (by simp only [List.getElem?_toArray, List.getElem?_cons_succ, List.getElem?_cons_zero]; rfl) (by kernel_rfl) (by kernel_rfl) (by kernel_rfl) (by intro _ _ _ h; exact h) (Or.inl ⟨by rfl, ?_⟩) (by assumption) ?_
                  rotate_left 1
                  · (intro w hSw; (try dsimp only at hSw); go_simp; try with_reducible rfl)
                  try simp only [Act.put, List.setIfInBounds_toArray, List.set_cons_zero, List.set_cons_succ]
                  refine wpAnyH_take (i := 6) (oi := _) (v := ?_) (by simp only [List.getElem?_toArray, List.getElem?_cons_succ, List.getElem?_cons_zero]; rfl) (by kernel_rfl) (by kernel_rfl) (by kernel_rfl) (by intro _ _ _ h; exact h) (Or.inl ⟨by rfl, ?_⟩) (by assumption) ?_
                  rotate_left 1
                  · (intro w hSw; (try dsimp only at hSw); go_simp; try with_reducible rfl)
                  try simp only [Act.put, List.setIfInBounds_toArray, List.set_cons_zero, List.set_cons_succ]
                  refine wpAnyH_take (i := 7) (oi := _) (v := ?_) (by simp only [List.getElem?_toArray, List.getElem?_cons_succ, List.getElem?_cons_zero]; rfl) (by kernel_rfl) (by kernel_rfl) (by kernel_rfl) (by intro _ _ _ h; exact h) (Or.inl ⟨by rfl, ?_⟩) (by assumption) ?_
                  rotate_left 1
                  · (intro w hSw; (try dsimp only at hSw); go_simp; try with_reducible rfl)
                  try simp only [Act.put, List.setIfInBounds_toArray, List.set_cons_zero, List.set_cons_succ]
                  refine wpAnyH_take (i := 8) (oi := _) (v := ?_) (by simp only [List.getElem?_toArray, List.getElem?_cons_succ, List.getElem?_cons_zero]; rfl) (by kernel_rfl) (by kernel_rfl) (by kernel_rfl) (by intro _ _ _ h; exact h) (Or.inl ⟨by rfl, ?_⟩) (by assumption) ?_
                  rotate_left 1
                  · (intro w hSw; (try dsimp only at hSw); go_simp; try with_reducible rfl)
                  try simp only [Act.put, List.setIfInBounds_toArray, List.set_cons_zero, List.set_cons_succ]
                  refine wpAnyH_take (i := 9) (oi := _) (v := ?_) (by simp only [List.getElem?_toArray, List.getElem?_cons_succ, List.getElem?_cons_zero]; rfl) (by kernel_rfl) (by kernel_rfl) (by kernel_rfl) (by intro _ _ _ h; exact h) (Or.inl ⟨by rfl, ?_⟩) (by assumption) ?_
                  rotate_left 1
                  · (intro w hSw; (try dsimp only at hSw); go_simp; try with_reducible rfl)
                  try simp only [Act.put, List.setIfInBounds_toArray, List.set_cons_zero, List.set_cons_succ]
                  refine wpAnyH_take (i := 11) (oi := _) (v := ?_) (by simp only [List.getElem?_toArray, List.getElem?_cons_succ, List.getElem?_cons_zero]; rfl) (by kernel_rfl) (by kernel_rfl) (by kernel_rfl) (by intro _ _ _ h; exact h) (Or.inl ⟨by rfl, ?_⟩) (by assumption) ?_
                  rotate_left 1
                  · (intro w hSw; (try dsimp only at hSw); go_simp; try with_reducible rfl)
                  try simp only [Act.put, List.setIfInBounds_toArray, List.set_cons_zero, List.set_cons_succ]
                  refine wpAnyH_take (i := 12) (oi := _) (v := ?_) (by simp only [List.getElem?_toArray, List.getElem?_cons_succ, List.getElem?_cons_zero]; rfl) (by kernel_rfl) (by kernel_rfl) (by kernel_rfl) (by intro _ _ _ h; exact h) (Or.inl ⟨by rfl, ?_⟩) (by assumption) ?_
                  rotate_left 1
                  · (intro w hSw; (try dsimp only at hSw); go_simp; try with_reducible rfl)
                  try simp only [Act.put, List.setIfInBounds_toArray, List.set_cons_zero, List.set_cons_succ]
                  refine wpAnyH_take (i := 13) (oi := _) (v := ?_) (by simp only [List.getElem?_toArray, List.getElem?_cons_succ, List.getElem?_cons_zero]; rfl) (by kernel_rfl) (by kernel_rfl) (by kernel_rfl) (by intro _ _ _ h; exact h) (Or.inl ⟨by rfl, ?_⟩) (by assumption) ?_
                  rotate_left 1
                  · (intro w hSw; (try dsimp only at hSw); go_simp; try with_reducible rfl)
                  try simp only [Act.put, List.setIfInBounds_toArray, List.set_cons_zero, List.set_cons_succ]
                  refine wpAnyH_ready (rs := [10]) (by kernel_rfl) (by simp) ?_
                  refine AllReadyH.cons (by simp only [List.getElem?_toArray, List.getElem?_cons_succ, List.getElem?_cons_zero]; rfl) (fun K hK => ?_) AllReadyH.nil
                  go_simp
                  (go_at_call 11; (with_reducible refine (HD.out).mono ?_); rintro e z ⟨rfl, rfl⟩)
                  refine hK.out _ _ (by go_keep) (fun hHeld => ?_)
                  clear hK K
                  try simp only [Act.put, List.setIfInBounds_toArray, List.set_cons_zero, List.set_cons_succ]
                  refine wpAnyH_take (i := 14) (oi := _) (v := ?_) (by simp only [List.getElem?_toArray, List.getElem?_cons_succ, List.getElem?_cons_zero]; rfl) (by kernel_rfl) (by kernel_rfl) (by kernel_rfl) (by intro _ _ _ h; exact h) (Or.inl ⟨by rfl, ?_⟩) (by assumption) ?_
                  rotate_left 1
                  · (intro w hSw; (try dsimp only at hSw); go_simp; try with_reducible rfl)
                  try simp only [Act.put, List.setIfInBounds_toArray, List.set_cons_zero, List.set_cons_succ]
                  refine wpAnyH_take (i := 15) (oi := _) (v := ?_) (by simp only [List.getElem?_toArray, List.getElem?_cons_succ, List.getElem?_cons_zero]; rfl) (by kernel_rfl) (by kernel_rfl) (by kernel_rfl) (by intro _ _ _ h; exact h) (Or.inl ⟨by rfl, ?_⟩) (by assumption) ?_
                  rotate_left 1
                  · (intro w hSw; (try dsimp only at hSw); go_simp; try with_reducible rfl)
                  try simp only [Act.put, List.setIfInBounds_toArray, List.set_cons_zero, List.set_cons_succ]
                  refine wpAnyH_done (by kernel_rfl) ?_ _
                  go_wp2_with fail
                  rw [← HAA.out]
                  go_roundg (N - (i + 1))
                  case measure => omega
                  case rel => exact ⟨i + 1, by omega, by go_num, Lib.hid HM.out.drew, by omega⟩
              · obtain rfl : i = N := by omega
                have hB := Lib.hid (Mod.below HBW.out HM.out (by simp))
                go_wp2_with fail
                go_ret
                exact ⟨rfl, hB.out⟩
/-! ### the row's step -/
theorem own : ownKnob Try.prog.godebug = none := by kernel_rfl
theorem laidOut : laidOutB Try.prog = true := by kernel_rfl
set_option maxRecDepth 100000 in
theorem lifted (os : Os) (started : os.Started) (H : Type) (enc : TypeId × Value → H) :
    ReturnsInHanded {} Try.checked os 6 .any (Rows.oncePoolSpec.pre6 enc Try.prog Try.f6 Rows.oncePoolRow.domain false) (Rows.oncePoolSpec.post enc Try.prog Try.f6 false true false false) := by
  refine returnsInHanded_of_change (C := Try.checked) own started (by kernel_rfl) Try.func6
    (ChangeSpec.witness6 (enc := enc) (C := Try.checked) false ⟨#[], #[.int .i64 0, .slice none 0 0], []⟩ 8 (by kernel_rfl) (by kernel_rfl) (by kernel_rfl) (by kernel_rfl)) ?_
  intro W base args ds gs before hval0 hW hcnd _
  have hval : ∀ (j : Nat) t v, Try.f6.params[j]? = some t → args[j]? = some v → Value.okWide Try.prog W .any base t v := hval0
  have hW' := hW
  obtain ⟨p, q, hA0, hV, rfl, hfz, hnd⟩ := hW
  have hA : DataW.TrodAll enc Try.prog W 0 (fun _ => true) true Try.f6.params.toList args.toList ds p := hA0
  rw [Try.params6] at hA hval
  obtain ⟨v0, vs0, d0, ds0, p0, q0, hargs, rfl, rfl, h0, r0⟩ := trodAll_cons hA
  obtain ⟨v1, vs1, d1, ds1, p1, q1, rfl, rfl, rfl, h1, r1⟩ := trodAll_cons r0
  obtain ⟨rfl, rfl, rfl⟩ := trodAll_nil r1
  obtain rfl : args = #[v0, v1] := by cases args; simp_all
  obtain ⟨rfl, rfl⟩ := trodVars_none hV
  have k0 := h0
  have lt0 : ∀ x ∈ p0, x.block < W.heap.size := by obtain ⟨m, hm⟩ := k0; exact DataW.trod_lt m _ _ _ hm
  have k1 := h1
  have lt1 : ∀ x ∈ p1, x.block < W.heap.size := by obtain ⟨m, hm⟩ := k1; exact DataW.trod_lt m _ _ _ hm
  obtain ⟨a0, rfl, rfl, rfl, w0⟩ := open_int Try.underlying3 (hval 0 3 v0 rfl rfl) h0
  obtain ⟨a1, len1, cap1, rfl⟩ := okWide_slice Try.underlying31 (hval 1 31 v1 rfl rfl)
  obtain ⟨z1, w1⟩ := IntsAt.open_ Try.underlying31 Try.underlying3 (by kernel_rfl) h1
  clear hA0 hval0
  refine (walk a0 a1 len1 cap1 z1 W w0 w1).mono fun e W' ⟨he, bel⟩ => ?_
  subst he
  exact ⟨_, rfl, _, _, _, [], _, [], hW', trodAll_mk1 (shut_bool Try.underlying4 _), (trodAll_cons_mk (Below.trod laidOut (by kernel_rfl) (of_decide_eq_true (by kernel_rfl)) k0 bel lt0) (trodAll_cons_mk (Below.trod laidOut (by kernel_rfl) (of_decide_eq_true (by kernel_rfl)) k1 bel lt1) trodAll_mk0)), rfl, bel.frame _, fun h => by cases h⟩

theorem over : Rows.oncePoolRow.holds Try.pinned (OpenSpec.ofChange Rows.oncePoolSpec) :=
  OpenClaim.holds_of_wide 6 Try.f6 rfl rfl rfl rfl rfl rfl rfl ⟨rfl, rfl, rfl, rfl, rfl⟩ rfl rfl rfl rfl rfl (by kernel_rfl) Try.func6 (by kernel_rfl)
    (of_decide_eq_true (by kernel_rfl)) (by unfold Func.isWrapper; first | (rw [if_pos (by decide +kernel)]; kernel_rfl) | (rw [if_neg (by decide +kernel)]; exact ⟨rfl, rfl⟩))
    (fun os started H enc _ => lifted os started H enc)

theorem proved : Rows.OncePoolSaid := over
#print axioms proved
end Go.Proofs.Ytgioelaagedlbaa.oncePool
