/- DeleteFunc at timers. -/
import Derived.Test.YtnfhmflcaolbbaaWheelS
namespace Go.Proofs.Ytnfhmflcaolbbaa
open Go.RowKit
attribute [local go_sem ↓] Go.wp_at_zero Go.wp_at_succ
set_option linter.unusedVariables false
set_option linter.unusedSimpArgs false

theorem Sl.tm {w : World} {A : Option Addr} {n : Nat} {l : List Tm} (h : Sl w 2 A n (tc l)) {k : Nat} (hk : k < l.length) : ∃ g o, A = some ⟨g, o, none⟩ ∧ g < w.heap.size ∧
    w.cell? ⟨g, o + k * 2, none⟩ = some (.int .i64 l[k].id) ∧ w.cell? ⟨g, o + k * 2 + 1, none⟩ = some (.int .i64 l[k].t) := by
  have hn : 0 < n := by have h1 := h.1; rw [tc_len] at h1; omega
  obtain ⟨g, o, rfl, hl, hx⟩ := h.at_ hn
  refine ⟨g, o, rfl, hl, ?_, ?_⟩
  · exact hx (k * 2 + 0) _ ((tc_at l hk (by omega)).trans rfl)
  · rw [Nat.add_assoc]; exact hx _ _ ((tc_at l hk (by omega)).trans rfl)
theorem stop1_any (bi : Nat) (id : Int) (x : Tm) (w : World) (hC : Cells w bi [.int .i64 id]) :
    Calls Try.prog 26 #[x.val, .pointer (some ⟨bi, 0, none⟩)] w (Only w (.bool (x.id == id))) := by
  have hlt := hC.2.2
  have c0 : w.cell? ⟨bi, 0, none⟩ = some (.int .i64 id) := hC.1 0 _ rfl
  clear hC
  unfold Tm.val
  go_enter Try.func26, Try.ntmps26
  go_wp2_with fail
  go_ret
  exact ⟨rfl, (Mod.refl _ w).alloc _⟩
/-- just where the first is -/
def FoundX (w : World) (l : List Tm) (p : Tm → Bool) (e : Ending) (w' : World) : Prop :=
  ∃ r : Int, e = .returned (.int .i64 r) ∧ ((∃ k, ∃ h : k < l.length, r = k ∧ (∀ j (h1 : j < l.length), j < k → p l[j] = false) ∧ p l[k] = true) ∨ (r = -1 ∧ ∀ j (h1 : j < l.length), p l[j] = false)) ∧ Mod (fun _ => False) w w'
theorem indexX (A : Option Addr) (l : List Tm) (c gb : Nat) (p : Tm → Bool) (w : World) (hl : Sl w 2 A l.length (tc l))
    (hp : ∀ (u : Tm) (W : World), Mod (fun _ => False) w W → Calls Try.prog 26 #[u.val, .pointer (some ⟨gb, 0, none⟩)] W (Only W (.bool (p u)))) :
    Calls Try.prog 31 #[.slice A l.length c, .func (.func 26) #[] #[.pointer (some ⟨gb, 0, none⟩)]] w (FoundX w l p) := by
  have hb1 := hl.2.1
  unfold maxLen at hb1
  have HL := Lib.hid hl
  have HP := Lib.hid hp
  clear hl hp
  go_enter Try.func31, Try.ntmps31
  go_wp2_with fail
  go_loopg [5, 8] l.length (fun q _ i wr => ∃ k : Nat, k ≤ l.length ∧ i = .int .i64 k ∧ Hid (∀ j (h1 : j < l.length), j < k → p l[j] = false) ∧ Hid (Mod (fun _ => False) w wr) ∧ q + k = l.length)
  case atStart => exact ⟨0, by omega, rfl, Lib.hid fun j _ h => absurd h (by omega), Lib.hid (Mod.refl _ _), by omega⟩
  case round =>
    obtain ⟨k, hk, rfl, hE, hM, hq⟩ := hrel
    by_cases hlt : k < l.length
    · obtain ⟨g, o, rfl, hg, q0, q1⟩ := (HL.out.none_ hM.out).tm hlt
      have hc := HP.out l[k] _ hM.out
      unfold Tm.val at hc
      cases hv : p l[k]
      · rw [hv] at hc
        have HC := Lib.hid hc
        have HV := Lib.hid hv
        clear hc hv
        generalize hxx : l[k] = x at *
        have HX := Lib.hid hxx
        clear hxx
        go_wp2_with fail
        refine HC.out.mono ?_
        rintro e w1 ⟨rfl, m1⟩
        have M1 := Lib.hid (hM.out.trans m1 (by simp))
        clear m1
        go_wp2_with fail
        go_roundg (l.length - (k + 1))
        case measure => omega
        case rel =>
          refine ⟨k + 1, by omega, by go_num, Lib.hid fun j h1 hj => ?_, M1, by omega⟩
          by_cases e : j = k
          · subst e; rw [HX.out]; exact HV.out
          · exact hE.out j h1 (by omega)
      · have HE := hE
        have HV := Lib.hid hv
        rw [hv] at hc
        have HC := Lib.hid hc
        clear hc hv
        generalize hxx : l[k] = x at *
        have HX := Lib.hid hxx
        clear hxx
        go_wp2_with fail
        refine HC.out.mono ?_
        rintro e w1 ⟨rfl, m1⟩
        have M1 := Lib.hid (hM.out.trans m1 (by simp))
        clear m1
        go_wp2_with fail
        go_ret
        exact ⟨_, rfl, .inl ⟨k, hlt, rfl, HE.out, by rw [HX.out]; exact HV.out⟩, M1.out⟩
    · have HA := Lib.hid (fun j (h1 : j < l.length) => hE.out j h1 (by omega))
      go_wp2_with fail
      go_ret
      exact ⟨_, rfl, .inr ⟨rfl, HA.out⟩, hM.out⟩


/-- a whole element is written -/
theorem Own.setK {α : Type} {f : α → List Value} {C : Nat} (hf : ∀ x, (f x).length = C) (hC : 0 < C) {w : World} {g o n c : Nat} {l : List α} (h : Own w C (some ⟨g, o, none⟩) n c (l.flatMap f)) (hl : l.length = n) {i : Nat} (hi : i < n) (x : α) : Own (w.setCells g (o + i * C) (f x)) C (some ⟨g, o, none⟩) n c ((l.set i x).flatMap f) := by
  have hnc := h.2.1
  have h1 : i * C + C ≤ c * C := by rw [← Nat.succ_mul]; exact Nat.mul_le_mul_right _ (by omega)
  obtain ⟨ys, hy1, hy2⟩ := h.puts (k := i * C) (f x) (by rw [hf]; exact h1)
  have e : ys = (l.set i x).flatMap f := by
    have hlen : ((l.set i x).flatMap f).length = n * C := by rw [cl_len hf, List.length_set, hl]
    apply List.ext_getElem?
    intro j
    by_cases hj : j < n * C
    · have hjn : j / C < n := (Nat.div_lt_iff_lt_mul hC).2 hj
      have hjm : j % C < C := Nat.mod_lt _ hC
      have hje : j = j / C * C + j % C := by rw [Nat.mul_comm]; exact (Nat.div_add_mod j C).symm
      generalize j / C = a at *
      generalize j % C = b at *
      subst hje
      have e1 := cl_at hf (l.set i x) (i := a) (j := b) (by rw [List.length_set, hl]; exact hjn) hjm
      rw [hy2 _ hj, hf, e1]
      by_cases ea : a = i
      · subst ea
        rw [if_pos (by omega), Nat.add_sub_cancel_left, List.getElem_set_self]
      · rw [List.getElem_set_ne (fun h => ea h.symm), cl_at hf l (by omega) hjm, if_neg]
        rintro ⟨h2, h3⟩
        rcases Nat.lt_or_ge a i with hlt | hge
        · have : a * C + C ≤ i * C := by rw [← Nat.succ_mul]; exact Nat.mul_le_mul_right _ hlt
          omega
        · have : i * C + C ≤ a * C := by rw [← Nat.succ_mul]; exact Nat.mul_le_mul_right _ (by omega)
          omega
    · rw [List.getElem?_eq_none (by rw [hy1.1]; omega), List.getElem?_eq_none (by rw [hlen]; omega)]
  rwa [e] at hy1
theorem filt_next {l : List Tm} {p : Tm → Bool} {j : Nat} (h : j < l.length) : (l.take (j + 1)).filter (fun x => !p x) = (l.take j).filter (fun x => !p x) ++ (if p l[j] then [] else [l[j]]) := by
  rw [List.take_succ_eq_append_getElem h, List.filter_append]
  congr 1
  cases hp : p l[j] <;> simp [hp]
/-- the first i are what stays of the first j; the rest is as it was -/
def Dl (l : List Tm) (p : Tm → Bool) (i j : Nat) (ys : List Tm) : Prop := ys.length = l.length ∧ ys.take i = (l.take j).filter (fun x => !p x) ∧ ∀ k, j ≤ k → ys[k]? = l[k]?

theorem zeroE (w : World) : (zeroValue 54).run Try.prog w = .ok (.agg #[.int .i64 0, .int .i64 0]) w := by kernel_rfl
theorem zero1 : ∀ v ∈ (Value.agg #[.int .i64 0, .int .i64 0]).cells, v.oneCell' = true := by
  intro v hv
  simp [Value.cells] at hv
  rcases hv with rfl <;> rfl
set_option maxHeartbeats 3200000 in
theorem delete_any (g o : Nat) (l : List Tm) (c bl : Nat) (p : Tm → Bool) (w : World) (hl : Own w 2 (some ⟨g, o, none⟩) l.length c (tc l))
    (hp : ∀ (u : Tm) (W : World), Mod (fun q => q = g) w W → Calls Try.prog 26 #[u.val, .pointer (some ⟨bl, 0, none⟩)] W (Only W (.bool (p u)))) :
    Calls Try.prog 25 #[.slice (some ⟨g, o, none⟩) l.length c, .func (.func 26) #[] #[.pointer (some ⟨bl, 0, none⟩)]] w
      fun e w' => e = .returned (.slice (some ⟨g, o, none⟩) (l.filter fun x => !p x).length c) ∧ Own w' 2 (some ⟨g, o, none⟩) (l.filter fun x => !p x).length c (tc (l.filter fun x => !p x)) ∧ Mod (fun q => q = g) w w' := by
  have hb1 := hl.2.1
  have hb2 := hl.2.2.1
  unfold maxLen at hb2
  have HL := Lib.hid hl
  have HP := Lib.hid hp
  have HX := Lib.hid (indexX (some ⟨g, o, none⟩) l c bl p w (Sl.of_own hl) (fun u W hm => hp u W (hm.mono (by simp))))
  clear hl hp
  go_enter Try.func25, Try.ntmps25
  go_wp2_with fail
  refine HX.out.mono ?_
  rintro e w1 ⟨r, rfl, hr, m1⟩
  rcases hr with ⟨k0, hk0, rfl, hE, hV⟩ | ⟨rfl, hN⟩
  · have M1 := Lib.hid m1
    have O1 := Lib.hid (HL.out.mod m1 (by simp))
    have hdl : Dl l p k0 (k0 + 1) l := by
      refine ⟨rfl, ?_, fun k _ => rfl⟩
      rw [filt_next hk0, hV, if_pos rfl, List.append_nil]
      refine (List.filter_eq_self.2 fun x hx => ?_).symm
      obtain ⟨j, hj, rfl⟩ := List.getElem_of_mem hx
      rw [List.length_take] at hj
      rw [List.getElem_take, hE j (by omega) (by omega)]; rfl
    have HD := Lib.hid hdl
    have hk1 : ¬ ((k0 : Int) = -1) := by omega
    clear m1 hE hV hdl HX
    go_wp2_with fail
    go_loopg [5, 6, 7] (l.length - (k0 + 1)) (fun m v5 v6 v7 wr => ∃ (i j : Nat) (ys : List Tm), i < j ∧ j ≤ l.length ∧ v5 = .int .i64 i ∧ v6 = .int .i64 j ∧ Hid (Dl l p i j ys) ∧ Hid (Own wr 2 (some ⟨g, o, none⟩) l.length c (tc ys)) ∧ Hid (Mod (fun q => q = g) w wr) ∧ m + j = l.length)
    case atStart => exact ⟨k0, k0 + 1, l, by omega, by omega, rfl, by go_num, HD, O1, Lib.hid (M1.out.mono (by simp)), Nat.sub_add_cancel (show k0 + 1 ≤ l.length from hk0)⟩
    case round =>
      obtain ⟨i, j, ys, hij, hj, rfl, rfl, HDl, HO, HM, hm⟩ := hrel
      have hyl := HDl.out.1
      by_cases hlt : j < l.length
      · obtain ⟨gg, oo, e', hg, q0, q1⟩ := (Sl.of_own HO.out).tm (k := j) (by omega)
        injection e' with e'
        injection e' with e1 e2
        subst e1 e2
        have hyj : ys[j] = l[j] := by
          have := HDl.out.2.2 j (Nat.le_refl _)
          rw [List.getElem?_eq_getElem (by omega), List.getElem?_eq_getElem hlt] at this
          injection this
        rw [hyj] at q0 q1
        have hc := fun W hm => HP.out l[j] W hm
        unfold Tm.val at hc
        have HC := Lib.hid hc
        have hnext := Lib.hid (filt_next (p := p) hlt)
        have j0 : (0 : Int) ≤ (j : Int) := by omega
        have j1 : (j : Int) < (l.length : Int) := by omega
        have i0 : (0 : Int) ≤ (i : Int) := by omega
        have i1 : (i : Int) < (l.length : Int) := by omega
        cases hv : p l[j]
        · rw [hv] at hnext
          generalize l[j] = x at *
          go_wp2_with fail
          refine (HC.out _ (HM.out.alloc _)).mono ?_
          rintro e w2 ⟨rfl, m2⟩
          rw [hv]
          have hbx : Cells (wr.alloc (.cells #[.int .i64 x.id, .int .i64 x.t] 54)) wr.heap.size x.cells := Cells.new wr _ _
          have hby := hbx.mod m2 (by simp)
          have z0 : w2.cell? ⟨wr.heap.size, 0, none⟩ = some (.int .i64 x.id) := hby.1 0 _ rfl
          have z1 : w2.cell? ⟨wr.heap.size, 1, none⟩ = some (.int .i64 x.t) := hby.1 1 _ rfl
          have O2 := Lib.hid ((HO.out.alloc (.cells #[.int .i64 x.id, .int .i64 x.t] 54)).mod m2 (by simp))
          obtain ⟨gg, oo, e', _, y0, y1⟩ := (Sl.of_own O2.out).tm (k := i) (by omega)
          injection e' with e'
          injection e' with e1 e2
          subst e1 e2
          have fz : ∀ q, q < 2 → w2.frozen? ⟨g, o + i * 2 + q, none⟩ = false := fun q hq => by
            rcases O2.out.2.2.2 with ⟨h, _⟩ | ⟨g', o', e', _, hr, _⟩
            · cases h
            · injection e' with e'
              injection e' with e1 e2
              subst e1 e2
              rw [Nat.add_assoc]
              exact (hr (i * 2 + q) (by omega)).2
          have f0 := fz 0 (by omega)
          have f1 := fz 1 (by omega)
          rw [Nat.add_zero] at f0
          have O3 := Lib.hid (O2.out.setK Tm.cells_len (by omega) hyl (show i < l.length by omega) x)
          have M3 := Lib.hid (Mod.grown ((HM.out.alloc (.cells #[.int .i64 x.id, .int .i64 x.t] 54)).trans m2 (by simp)) (grown_setCells w2 g (o + i * 2) x.cells) (fun q e => by injection e with e; exact .inl e.symm))
          have D3 := Lib.hid (show Dl l p (i + 1) (j + 1) (ys.set i x) by
            obtain ⟨d1, d2, d3⟩ := HDl.out
            refine ⟨by rw [List.length_set]; exact d1, ?_, fun k hk => ?_⟩
            · rw [hnext.out, ← d2, List.take_succ_eq_append_getElem (by rw [List.length_set]; omega), List.take_set, List.set_eq_of_length_le (by rw [List.length_take]; omega), List.getElem_set_self]
              rfl
            · rw [List.getElem?_set_ne (by omega)]
              exact d3 k (by omega))
          clear fz hbx hby m2
          go_wp2_with fail
          go_roundg (l.length - (j + 1))
          case measure => omega
          case rel => exact ⟨i + 1, j + 1, ys.set i x, by omega, by omega, by go_num, by go_num, D3, O3, M3, by omega⟩
        · rw [hv] at hnext
          have D3 := Lib.hid (show Dl l p i (j + 1) ys by
            obtain ⟨d1, d2, d3⟩ := HDl.out
            exact ⟨d1, by rw [hnext.out, d2, if_pos rfl, List.append_nil], fun k hk => d3 k (by omega)⟩)
          generalize l[j] = x at *
          go_wp2_with fail
          refine (HC.out _ (HM.out.alloc _)).mono ?_
          rintro e w2 ⟨rfl, m2⟩
          rw [hv]
          have O2 := Lib.hid ((HO.out.alloc (.cells #[.int .i64 x.id, .int .i64 x.t] 54)).mod m2 (by simp))
          have M2 := Lib.hid ((HM.out.alloc (.cells #[.int .i64 x.id, .int .i64 x.t] 54)).trans m2 (by simp))
          clear m2
          go_wp2_with fail
          go_roundg (l.length - (j + 1))
          case measure => omega
          case rel => exact ⟨i, j + 1, ys, by omega, by omega, rfl, by go_num, D3, O2, M2, by omega⟩
      · obtain rfl : j = l.length := by omega
        obtain ⟨d1, d2, d3⟩ := HDl.out
        rw [List.take_length] at d2
        have hlen : (l.filter fun x => !p x).length = i := by rw [← d2, List.length_take]; omega
        have i0 : (0 : Int) ≤ (i : Int) := by omega
        have i1 : (i : Int) ≤ (l.length : Int) := by omega
        have i2 : (i : Int) ≤ (c : Int) := by omega
        have hic : ¬ c = i := by omega
        have hil : i < l.length := by omega
        have HD2 := Lib.hid d2
        clear d2 d3
        obtain ⟨w3, hcl, ho3, hg3⟩ := run_clear_Own (P := Try.prog) (size := 2) 50 54 0 (.agg #[.int .i64 0, .int .i64 0]) Try.underlying50 zeroE rfl zero1 (by decide) HO.out hil (c - i)
        have O3 := Lib.hid (show Own w3 2 (some ⟨g, o, none⟩) i c (tc (l.filter fun x => !p x)) by
          rw [← HD2.out, show tc (ys.take i) = (tc ys).take (i * 2) from (cl_take Tm.cells_len ys i).symm]; exact ho3)
        have M3 := Lib.hid (HM.out.grown hg3 (fun q e => by injection e with e; exact .inl e.symm))
        clear ho3 hg3
        go_wp2_with fail
        go_ret
        refine ⟨?_, by rw [hlen]; exact O3.out, M3.out⟩
        rw [hlen]
        rfl
  · have hfl : (l.filter fun x => !p x) = l := List.filter_eq_self.2 fun x hx => by
      obtain ⟨j, hj, rfl⟩ := List.getElem_of_mem hx
      rw [hN j hj]; rfl
    have O1 := Lib.hid (HL.out.mod m1 (by simp))
    have M1 := Lib.hid m1
    clear m1 hN HX
    go_wp2_with fail
    go_ret
    refine ⟨?_, by rw [hfl]; exact O1.out, M1.out.mono (by simp)⟩
    rw [hfl]
    rfl
end Go.Proofs.Ytnfhmflcaolbbaa
