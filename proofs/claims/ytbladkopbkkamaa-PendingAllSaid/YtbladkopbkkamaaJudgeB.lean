/- The walks of the package judge, further: Prefix, Once, Cast, Agree. -/
import Derived.Test.YtbladkopbkkamaaJudge
namespace Go.Proofs.Ytbladkopbkkamaa
open Go.RowKit
attribute [local go_sem ↓] Go.wp_at_zero Go.wp_at_succ
set_option linter.unusedVariables false
set_option linter.unusedSimpArgs false

/-- an answer that is not below 0 just where something was found -/
def Found (w : World) (b : Bool) (e : Ending) (w' : World) : Prop := ∃ r : Int, e = .returned (.int .i64 r) ∧ decide (0 ≤ r) = b ∧ Mod (fun _ => False) w w'

theorem any_at {α : Type} {p : α → Bool} {l : List α} {k : Nat} (hk : k < l.length) (h : p l[k] = true) : l.any p = true := List.any_eq_true.2 ⟨_, List.getElem_mem hk, h⟩
theorem any_none {α : Type} {p : α → Bool} {l : List α} (h : ∀ j (hj : j < l.length), p l[j] = false) : l.any p = false := by
  rw [List.any_eq_false]
  intro x hx
  obtain ⟨j, hj, rfl⟩ := List.getElem_of_mem hx
  simp [h j hj]

set_option maxHeartbeats 1600000 in
theorem once1_any (gb : Nat) (t u : To) (w : World) (hC : Cells w gb t.cells) :
    Calls Try.prog 34 #[u.val, .pointer (some ⟨gb, 0, none⟩)] w (Only w (.bool (same t.e u.e))) := by
  have hs := fun W => same_ent t.e u.e W
  generalize same t.e u.e = s at *
  obtain ⟨t0, t1, t2, t3, t4, t5, t6, t7⟩ := t
  obtain ⟨u0, u1, u2, u3, u4, u5, u6, u7⟩ := u
  unfold En.val To.cells En.cells To.val at *
  simp only [] at *
  have HS := Lib.hid hs
  have c1 : w.cell? ⟨gb, 1, none⟩ = some (.int .i64 t1) := hC.1 1 _ rfl
  have c2 : w.cell? ⟨gb, 2, none⟩ = some (.int .i64 t2) := hC.1 2 _ rfl
  have c3 : w.cell? ⟨gb, 3, none⟩ = some (.int .i64 t3) := hC.1 3 _ rfl
  have c4 : w.cell? ⟨gb, 4, none⟩ = some (.int .i64 t4) := hC.1 4 _ rfl
  have c5 : w.cell? ⟨gb, 5, none⟩ = some (.int .i64 t5) := hC.1 5 _ rfl
  have c6 : w.cell? ⟨gb, 6, none⟩ = some (.int .i64 t6) := hC.1 6 _ rfl
  have c7 : w.cell? ⟨gb, 7, none⟩ = some (.string t7) := hC.1 7 _ rfl
  have hlt := hC.2.2
  clear hs hC
  go_enter Try.func34, Try.ntmps34
  go_wp2_with fail
  refine (HS.out _).mono ?_
  rintro e w1 ⟨rfl, m1⟩
  go_wp2_with fail
  go_ret
  exact ⟨rfl, ((Mod.refl _ _).alloc _).trans m1 (by simp)⟩

set_option maxHeartbeats 1600000 in
theorem indexT (A : Option Addr) (l : List To) (c gb : Nat) (p : To → Bool) (w : World) (hl : Sl w 8 A l.length (tcells l))
    (hp : ∀ (u : To) (W : World), Mod (fun _ => False) w W → Calls Try.prog 34 #[u.val, .pointer (some ⟨gb, 0, none⟩)] W (Only W (.bool (p u)))) :
    Calls Try.prog 47 #[.slice A l.length c, .func (.func 34) #[] #[.pointer (some ⟨gb, 0, none⟩)]] w (Found w (l.any p)) := by
  have hb1 := hl.2.1
  unfold maxLen at hb1
  have HL := Lib.hid hl
  have HP := Lib.hid hp
  clear hl hp
  go_enter Try.func47, Try.ntmps47
  go_wp2_with fail
  go_loopg [5, 8] l.length (fun q _ i wr => ∃ k : Nat, k ≤ l.length ∧ i = .int .i64 k ∧ Hid (∀ j (h1 : j < l.length), j < k → p l[j] = false) ∧ Hid (Mod (fun _ => False) w wr) ∧ q + k = l.length)
  case atStart => exact ⟨0, by omega, rfl, Lib.hid fun j _ h => absurd h (by omega), Lib.hid (Mod.refl _ _), by omega⟩
  case round =>
    obtain ⟨k, hk, rfl, hE, hM, hq⟩ := hrel
    by_cases hlt : k < l.length
    · obtain ⟨g, o, rfl, hg, q0, q1, q2, q3, q4, q5, q6, q7⟩ := (HL.out.none_ hM.out).to hlt
      have hc := HP.out l[k] _ hM.out
      unfold To.val at hc
      cases hv : p l[k]
      · rw [hv] at hc
        have HC := Lib.hid hc
        have HV := Lib.hid hv
        clear hc hv
        generalize hxx : l[k] = x at *
        have HX := Lib.hid hxx
        clear hxx
        go_wp2_with fail
        refine HC.out.mono ?_
        rintro e w1 ⟨rfl, m1⟩
        have M1 := Lib.hid (hM.out.trans m1 (by simp))
        clear m1
        go_wp2_with fail
        go_roundg (l.length - (k + 1))
        case measure => omega
        case rel =>
          refine ⟨k + 1, by omega, by go_num, Lib.hid fun j h1 hj => ?_, M1, by omega⟩
          by_cases e : j = k
          · subst e; rw [HX.out]; exact HV.out
          · exact hE.out j h1 (by omega)
      · have HA := Lib.hid (any_at hlt hv)
        rw [hv] at hc
        have HC := Lib.hid hc
        clear hc hv
        generalize l[k] = x at *
        go_wp2_with fail
        refine HC.out.mono ?_
        rintro e w1 ⟨rfl, m1⟩
        have M1 := Lib.hid (hM.out.trans m1 (by simp))
        clear m1
        go_wp2_with fail
        go_ret
        exact ⟨_, rfl, by rw [HA.out]; simp, M1.out⟩
    · have HA := Lib.hid (any_none (p := p) fun j h1 => hE.out j h1 (by omega))
      go_wp2_with fail
      go_ret
      exact ⟨_, rfl, by rw [HA.out]; rfl, hM.out⟩

theorem containsT (A : Option Addr) (l : List To) (c gb : Nat) (p : To → Bool) (w : World) (hl : Sl w 8 A l.length (tcells l))
    (hp : ∀ (u : To) (W : World), Mod (fun _ => False) w W → Calls Try.prog 34 #[u.val, .pointer (some ⟨gb, 0, none⟩)] W (Only W (.bool (p u)))) :
    Calls Try.prog 33 #[.slice A l.length c, .func (.func 34) #[] #[.pointer (some ⟨gb, 0, none⟩)]] w (Only w (.bool (l.any p))) := by
  have HI := Lib.hid (indexT A l c gb p w hl hp)
  clear hl hp
  go_enter Try.func33, Try.ntmps33
  go_wp2_with fail
  refine HI.out.mono ?_
  rintro e w1 ⟨r, rfl, hr, m1⟩
  have HR := Lib.hid hr
  clear hr
  go_wp2_with fail
  go_ret
  exact ⟨by rw [← HR.out]; rfl, m1⟩
set_option maxHeartbeats 1600000 in
theorem indexE (A : Option Addr) (l : List En) (c gb : Nat) (p : En → Bool) (w : World) (hl : Sl w 7 A l.length (ecells l))
    (hp : ∀ (u : En) (W : World), Mod (fun _ => False) w W → Calls Try.prog 37 #[u.val, .pointer (some ⟨gb, 0, none⟩)] W (Only W (.bool (p u)))) :
    Calls Try.prog 48 #[.slice A l.length c, .func (.func 37) #[] #[.pointer (some ⟨gb, 0, none⟩)]] w (Found w (l.any p)) := by
  have hb1 := hl.2.1
  unfold maxLen at hb1
  have HL := Lib.hid hl
  have HP := Lib.hid hp
  clear hl hp
  go_enter Try.func48, Try.ntmps48
  go_wp2_with fail
  go_loopg [5, 8] l.length (fun q _ i wr => ∃ k : Nat, k ≤ l.length ∧ i = .int .i64 k ∧ Hid (∀ j (h1 : j < l.length), j < k → p l[j] = false) ∧ Hid (Mod (fun _ => False) w wr) ∧ q + k = l.length)
  case atStart => exact ⟨0, by omega, rfl, Lib.hid fun j _ h => absurd h (by omega), Lib.hid (Mod.refl _ _), by omega⟩
  case round =>
    obtain ⟨k, hk, rfl, hE, hM, hq⟩ := hrel
    by_cases hlt : k < l.length
    · obtain ⟨g, o, rfl, hg, q0, q1, q2, q3, q4, q5, q6⟩ := (HL.out.none_ hM.out).ent hlt
      have hc := HP.out l[k] _ hM.out
      unfold En.val at hc
      cases hv : p l[k]
      · rw [hv] at hc
        have HC := Lib.hid hc
        have HV := Lib.hid hv
        clear hc hv
        generalize hxx : l[k] = x at *
        have HX := Lib.hid hxx
        clear hxx
        go_wp2_with fail
        refine HC.out.mono ?_
        rintro e w1 ⟨rfl, m1⟩
        have M1 := Lib.hid (hM.out.trans m1 (by simp))
        clear m1
        go_wp2_with fail
        go_roundg (l.length - (k + 1))
        case measure => omega
        case rel =>
          refine ⟨k + 1, by omega, by go_num, Lib.hid fun j h1 hj => ?_, M1, by omega⟩
          by_cases e : j = k
          · subst e; rw [HX.out]; exact HV.out
          · exact hE.out j h1 (by omega)
      · have HA := Lib.hid (any_at hlt hv)
        rw [hv] at hc
        have HC := Lib.hid hc
        clear hc hv
        generalize l[k] = x at *
        go_wp2_with fail
        refine HC.out.mono ?_
        rintro e w1 ⟨rfl, m1⟩
        have M1 := Lib.hid (hM.out.trans m1 (by simp))
        clear m1
        go_wp2_with fail
        go_ret
        exact ⟨_, rfl, by rw [HA.out]; simp, M1.out⟩
    · have HA := Lib.hid (any_none (p := p) fun j h1 => hE.out j h1 (by omega))
      go_wp2_with fail
      go_ret
      exact ⟨_, rfl, by rw [HA.out]; rfl, hM.out⟩

theorem containsE (A : Option Addr) (l : List En) (c gb : Nat) (p : En → Bool) (w : World) (hl : Sl w 7 A l.length (ecells l))
    (hp : ∀ (u : En) (W : World), Mod (fun _ => False) w W → Calls Try.prog 37 #[u.val, .pointer (some ⟨gb, 0, none⟩)] W (Only W (.bool (p u)))) :
    Calls Try.prog 36 #[.slice A l.length c, .func (.func 37) #[] #[.pointer (some ⟨gb, 0, none⟩)]] w (Only w (.bool (l.any p))) := by
  have HI := Lib.hid (indexE A l c gb p w hl hp)
  clear hl hp
  go_enter Try.func36, Try.ntmps36
  go_wp2_with fail
  refine HI.out.mono ?_
  rintro e w1 ⟨r, rfl, hr, m1⟩
  have HR := Lib.hid hr
  clear hr
  go_wp2_with fail
  go_ret
  exact ⟨by rw [← HR.out]; rfl, m1⟩

theorem Sl.takeT {w : World} {A : Option Addr} {l : List To} (h : Sl w 8 A l.length (tcells l)) {k : Nat} (hk : k ≤ l.length) : Sl w 8 A (l.take k).length (tcells (l.take k)) := by
  have := h.take hk
  rw [show (tcells l).take (k * 8) = tcells (l.take k) from cl_take To.cells_len l k] at this
  rwa [show (l.take k).length = k by simp; omega]

/-! ### Once -/
def OnceP (l : List To) : Prop := ∀ i (h : i < l.length), (l.take i).any (fun u => same l[i].e u.e) = false
/-- true just where nothing was told twice -/
def OnceR (w : World) (l : List To) (e : Ending) (w' : World) : Prop := ∃ v : Bool, e = .returned (.bool v) ∧ (v = true ↔ OnceP l) ∧ Mod (fun _ => False) w w'

set_option maxHeartbeats 3200000 in
theorem once_any (A : Option Addr) (l : List To) (c : Nat) (w : World) (hl : Sl w 8 A l.length (tcells l)) (hc : l.length ≤ c) (hc2 : c ≤ maxLen) :
    Calls Try.prog 18 #[.slice A l.length c] w (OnceR w l) := by
  have hmf : ∀ (fn : Fn) (first cap : Array Value) (w : World), (Instr.makeFunc fn first cap).run Try.prog w = .ok (.func fn first cap) w := fun _ _ _ _ => rfl
  unfold maxLen at hc2
  have HL := Lib.hid hl
  clear hl
  go_enter Try.func18, Try.ntmps18
  go_wp2_with fail
  go_loopg [3, 4, 7] l.length (fun q _ _ i wr => ∃ k : Nat, k ≤ l.length ∧ i = .int .i64 k ∧ Hid (∀ j (h1 : j < l.length), j < k → (l.take j).any (fun u => same l[j].e u.e) = false) ∧ Hid (Mod (fun _ => False) w wr) ∧ q + k = l.length)
  case atStart => exact ⟨0, by omega, rfl, Lib.hid fun j _ h => absurd h (by omega), Lib.hid (Mod.refl _ _), by omega⟩
  case round =>
    obtain ⟨k, hk, rfl, hE, hM, hq⟩ := hrel
    by_cases hlt : k < l.length
    · have HA := HL.out.none_ hM.out
      obtain ⟨g, o, rfl, hg, q0, q1, q2, q3, q4, q5, q6, q7⟩ := HA.to hlt
      have hT := HA.takeT (k := k) (by omega)
      have hlk : (l.take k).length = k := by simp; omega
      have hco : ∀ (W : World), Mod (fun _ => False) (wr.alloc (.cells #[.int .i64 l[k].at_, .int .i64 l[k].e.fr, .int .i64 l[k].e.bo, .int .i64 l[k].e.se, .int .i64 l[k].e.od, .int .i64 l[k].e.lv, .int .i64 l[k].e.st, .string l[k].e.da] 32)) W → Cells W wr.heap.size l[k].cells := fun W hm =>
        (Cells.new wr _ 32).mod hm (by simp)
      have hcc := containsT (some ⟨g, o, none⟩) (l.take k) c wr.heap.size (fun u => same l[k].e u.e) _ (hT.none_ ((Mod.refl _ _).alloc (.cells #[.int .i64 l[k].at_, .int .i64 l[k].e.fr, .int .i64 l[k].e.bo, .int .i64 l[k].e.se, .int .i64 l[k].e.od, .int .i64 l[k].e.lv, .int .i64 l[k].e.st, .string l[k].e.da] 32)))
        fun u W hm => once1_any wr.heap.size l[k] u W (hco W hm)
      rw [hlk] at hcc
      cases hv : (l.take k).any (fun u => same l[k].e u.e)
      · rw [hv] at hcc
        have HC := Lib.hid hcc
        have HV := Lib.hid hv
        clear hcc hv hco hT HA hlk
        generalize hxx : l[k] = x at *
        have HX := Lib.hid hxx
        clear hxx
        go_wp2_with fail
        refine HC.out.mono ?_
        rintro e w1 ⟨rfl, m1⟩
        have M1 := Lib.hid ((hM.out.alloc _).trans m1 (by simp))
        clear m1
        go_wp2_with fail
        go_roundg (l.length - (k + 1))
        case measure => omega
        case rel =>
          refine ⟨k + 1, by omega, by go_num, Lib.hid fun j h1 hj => ?_, M1, by omega⟩
          by_cases e : j = k
          · subst e; rw [HX.out]; exact HV.out
          · exact hE.out j h1 (by omega)
      · have HN := Lib.hid (show ¬ OnceP l from fun h => by rw [h k hlt] at hv; cases hv)
        rw [hv] at hcc
        have HC := Lib.hid hcc
        clear hcc hv hco hT HA hlk
        generalize l[k] = x at *
        go_wp2_with fail
        refine HC.out.mono ?_
        rintro e w1 ⟨rfl, m1⟩
        have M1 := Lib.hid ((hM.out.alloc _).trans m1 (by simp))
        clear m1
        go_wp2_with fail
        go_ret
        exact ⟨_, rfl, ⟨fun h => (by cases h), fun h => absurd h HN.out⟩, M1.out⟩
    · have HA := Lib.hid (show OnceP l from fun i h => hE.out i h (by omega))
      go_wp2_with fail
      go_ret
      exact ⟨_, rfl, ⟨fun _ => HA.out, fun _ => rfl⟩, hM.out⟩
end Go.Proofs.Ytbladkopbkkamaa
