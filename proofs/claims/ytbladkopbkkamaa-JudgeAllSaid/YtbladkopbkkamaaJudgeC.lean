/- The walks of the package judge, further: Cast, Prefix, Agree; the law's Told. -/
import Derived.Test.YtbladkopbkkamaaJudgeB
namespace Go.Proofs.Ytbladkopbkkamaa
open Go.RowKit
attribute [local go_sem ↓] Go.wp_at_zero Go.wp_at_succ
set_option linter.unusedVariables false
set_option linter.unusedSimpArgs false

def castE (t e : En) : Bool := same t e && t.od == e.od && t.lv == e.lv && t.da.toList == e.da.toList

set_option maxHeartbeats 3200000 in
theorem cast1_any (gb : Nat) (t : To) (u : En) (w : World) (hC : Cells w gb t.cells) :
    Calls Try.prog 37 #[u.val, .pointer (some ⟨gb, 0, none⟩)] w (Only w (.bool (castE t.e u))) := by
  have hs := fun W => same_ent t.e u W
  unfold castE
  generalize same t.e u = s0 at *
  obtain ⟨t0, t1, t2, t3, t4, t5, t6, t7⟩ := t
  obtain ⟨u1, u2, u3, u4, u5, u6, u7⟩ := u
  unfold En.val To.cells En.cells at *
  simp only [] at *
  have HS := Lib.hid hs
  have c1 : w.cell? ⟨gb, 1, none⟩ = some (.int .i64 t1) := hC.1 1 _ rfl
  have c2 : w.cell? ⟨gb, 2, none⟩ = some (.int .i64 t2) := hC.1 2 _ rfl
  have c3 : w.cell? ⟨gb, 3, none⟩ = some (.int .i64 t3) := hC.1 3 _ rfl
  have c4 : w.cell? ⟨gb, 4, none⟩ = some (.int .i64 t4) := hC.1 4 _ rfl
  have c5 : w.cell? ⟨gb, 5, none⟩ = some (.int .i64 t5) := hC.1 5 _ rfl
  have c6 : w.cell? ⟨gb, 6, none⟩ = some (.int .i64 t6) := hC.1 6 _ rfl
  have c7 : w.cell? ⟨gb, 7, none⟩ = some (.string t7) := hC.1 7 _ rfl
  have hlt := hC.2.2
  have HC := Lib.hid hC
  clear hs hC
  have hcases : s0 = false ∨ (s0 = true ∧ (t4 == u4) = false) ∨ (s0 = true ∧ (t4 == u4) = true ∧ (t5 == u5) = false) ∨ (s0 = true ∧ (t4 == u4) = true ∧ (t5 == u5) = true) := by
    cases s0 <;> cases (t4 == u4) <;> cases (t5 == u5) <;> simp
  rcases hcases with rfl | ⟨rfl, h4⟩ | ⟨rfl, h4, h5⟩ | ⟨rfl, h4, h5⟩
  all_goals
    go_enter Try.func37, Try.ntmps37
    go_wp2_with fail
    refine (HS.out _).mono ?_
    rintro e w1 ⟨rfl, m1⟩
    have ca := (HC.out.alloc _).mod m1 (by simp)
    have cb := (Cells.new w _ _).mod m1 (by simp)
    have x4 : w1.cell? ⟨gb, 4, none⟩ = some (.int .i64 t4) := ca.1 4 _ rfl
    have x5 : w1.cell? ⟨gb, 5, none⟩ = some (.int .i64 t5) := ca.1 5 _ rfl
    have x7 : w1.cell? ⟨gb, 7, none⟩ = some (.string t7) := ca.1 7 _ rfl
    have y3 : w1.cell? ⟨w.heap.size, 3, none⟩ = some (.int .i64 u4) := cb.1 3 _ rfl
    have y4 : w1.cell? ⟨w.heap.size, 4, none⟩ = some (.int .i64 u5) := cb.1 4 _ rfl
    have y6 : w1.cell? ⟨w.heap.size, 6, none⟩ = some (.string u7) := cb.1 6 _ rfl
    have M1 := Lib.hid m1
    clear ca cb m1
    go_wp2
    go_ret
    refine ⟨?_, ((Mod.refl (fun _ => False) _).alloc _).trans M1.out (by simp)⟩
    first | rfl | simp [*]

def castAll (l : List To) (cs : List En) : Bool := l.all fun t => cs.any fun e => castE t.e e
theorem castAll_at {l : List To} {cs : List En} {k : Nat} (hk : k < l.length) (h : (cs.any fun e => castE l[k].e e) = false) : castAll l cs = false := by
  unfold castAll
  rw [List.all_eq_false]
  exact ⟨_, List.getElem_mem hk, by simp only [h]; simp⟩
theorem castAll_true {l : List To} {cs : List En} (h : ∀ j (hj : j < l.length), (cs.any fun e => castE l[j].e e) = true) : castAll l cs = true := by
  unfold castAll
  rw [List.all_eq_true]
  intro t ht
  obtain ⟨j, hj, rfl⟩ := List.getElem_of_mem ht
  exact h j hj

set_option maxHeartbeats 3200000 in
theorem cast_any (A : Option Addr) (l : List To) (c : Nat) (B : Option Addr) (cs : List En) (d : Nat) (w : World) (hl : Sl w 8 A l.length (tcells l)) (hm : Sl w 7 B cs.length (ecells cs)) :
    Calls Try.prog 19 #[.slice A l.length c, .slice B cs.length d] w (Only w (.bool (castAll l cs))) := by
  have hmf : ∀ (fn : Fn) (first cap : Array Value) (w : World), (Instr.makeFunc fn first cap).run Try.prog w = .ok (.func fn first cap) w := fun _ _ _ _ => rfl
  have hb1 := hl.2.1
  unfold maxLen at hb1
  have HL := Lib.hid hl
  have HM := Lib.hid hm
  clear hl hm
  go_enter Try.func19, Try.ntmps19
  go_wp2_with fail
  go_loopg [6, 9] l.length (fun q _ i wr => ∃ k : Nat, k ≤ l.length ∧ i = .int .i64 k ∧ Hid (∀ j (h1 : j < l.length), j < k → (cs.any fun e => castE l[j].e e) = true) ∧ Hid (Mod (fun _ => False) w wr) ∧ q + k = l.length)
  case atStart => exact ⟨0, by omega, rfl, Lib.hid fun j _ h => absurd h (by omega), Lib.hid (Mod.refl _ _), by omega⟩
  case round =>
    obtain ⟨k, hk, rfl, hE, hM, hq⟩ := hrel
    by_cases hlt : k < l.length
    · have HA := HL.out.none_ hM.out
      obtain ⟨g, o, rfl, hg, q0, q1, q2, q3, q4, q5, q6, q7⟩ := HA.to hlt
      have hco : ∀ (W : World), Mod (fun _ => False) (wr.alloc (.cells #[.int .i64 l[k].at_, .int .i64 l[k].e.fr, .int .i64 l[k].e.bo, .int .i64 l[k].e.se, .int .i64 l[k].e.od, .int .i64 l[k].e.lv, .int .i64 l[k].e.st, .string l[k].e.da] 32)) W → Cells W wr.heap.size l[k].cells := fun W hm =>
        (Cells.new wr _ 32).mod hm (by simp)
      have hcc := containsE B cs d wr.heap.size (fun e => castE l[k].e e) _ ((HM.out.none_ hM.out).none_ ((Mod.refl _ _).alloc (.cells #[.int .i64 l[k].at_, .int .i64 l[k].e.fr, .int .i64 l[k].e.bo, .int .i64 l[k].e.se, .int .i64 l[k].e.od, .int .i64 l[k].e.lv, .int .i64 l[k].e.st, .string l[k].e.da] 32)))
        fun u W hm => cast1_any wr.heap.size l[k] u W (hco W hm)
      cases hv : cs.any (fun e => castE l[k].e e)
      · have HN := Lib.hid (castAll_at hlt hv)
        rw [hv] at hcc
        have HC := Lib.hid hcc
        clear hcc hv hco HA
        generalize l[k] = x at *
        go_wp2_with fail
        refine HC.out.mono ?_
        rintro e w1 ⟨rfl, m1⟩
        have M1 := Lib.hid ((hM.out.alloc _).trans m1 (by simp))
        clear m1
        go_wp2_with fail
        go_ret
        exact ⟨by rw [HN.out]; rfl, M1.out⟩
      · rw [hv] at hcc
        have HC := Lib.hid hcc
        have HV := Lib.hid hv
        clear hcc hv hco HA
        generalize hxx : l[k] = x at *
        have HX := Lib.hid hxx
        clear hxx
        go_wp2_with fail
        refine HC.out.mono ?_
        rintro e w1 ⟨rfl, m1⟩
        have M1 := Lib.hid ((hM.out.alloc _).trans m1 (by simp))
        clear m1
        go_wp2_with fail
        go_roundg (l.length - (k + 1))
        case measure => omega
        case rel =>
          refine ⟨k + 1, by omega, by go_num, Lib.hid fun j h1 hj => ?_, M1, by omega⟩
          by_cases e : j = k
          · subst e; rw [HX.out]; exact HV.out
          · exact hE.out j h1 (by omega)
    · have HA := Lib.hid (castAll_true (l := l) (cs := cs) fun j h => hE.out j h (by omega))
      go_wp2_with fail
      go_ret
      exact ⟨by rw [HA.out]; rfl, hM.out⟩

/-! ### Prefix -/
def prefixB (x y : List En) : Bool := (decide (x.length ≤ y.length) && eqAll x (y.take x.length)) || (decide (y.length ≤ x.length) && eqAll y (x.take y.length))

set_option maxHeartbeats 3200000 in
theorem prefix_any (A : Option Addr) (l : List To) (c : Nat) (B : Option Addr) (m : List To) (d : Nat) (w : World) (hl : Sl w 8 A l.length (tcells l)) (hm : Sl w 8 B m.length (tcells m)) (h1 : l.length ≤ 99) (h2 : m.length ≤ 99) :
    Calls Try.prog 17 #[.slice A l.length c, .slice B m.length d] w (Only w (.bool (prefixB (firm l) (firm m)))) := by
  have HL := Lib.hid hl
  have HM := Lib.hid hm
  clear hl hm
  go_enter Try.func17, Try.ntmps17
  go_wp2_with fail
  refine (jfirm_any A l c w HL.out h1).mono ?_
  rintro e w1 ⟨A1, c1, rfl, o1, m1, b1⟩
  have O1 := Lib.hid o1
  have M1 := Lib.hid m1
  clear o1 m1 b1
  go_wp2_with fail
  refine (jfirm_any B m d w1 (HM.out.none_ M1.out) h2).mono ?_
  rintro e w2 ⟨A2, c2, rfl, o2, m2, b2⟩
  have O2 := Lib.hid o2
  have M2 := Lib.hid m2
  have O1' := Lib.hid (O1.out.mod m2 (by simp))
  clear o2 m2 b2
  have f1 := front_any A1 A2 (firm l) (firm m) c1 c2 w2 (Sl.of_own O1'.out) (Sl.of_own O2.out) O2.out.2.1 O2.out.2.2.1
  have hp : prefixB (firm l) (firm m) = ((decide ((firm l).length ≤ (firm m).length) && eqAll (firm l) ((firm m).take (firm l).length)) || (decide ((firm m).length ≤ (firm l).length) && eqAll (firm m) ((firm l).take (firm m).length))) := rfl
  cases hv : (decide ((firm l).length ≤ (firm m).length) && eqAll (firm l) ((firm m).take (firm l).length))
  · rw [hv] at f1 hp
    have F1 := Lib.hid f1
    have HPx := Lib.hid hp
    clear f1 hp hv
    go_wp2_with fail
    refine F1.out.mono ?_
    rintro e w3 ⟨rfl, m3⟩
    have M3 := Lib.hid m3
    have f2 := front_any A2 A1 (firm m) (firm l) c2 c1 w3 (Sl.of_own (O2.out.mod m3 (by simp))) (Sl.of_own (O1'.out.mod m3 (by simp))) O1.out.2.1 O1.out.2.2.1
    have F2 := Lib.hid f2
    clear m3 f2
    go_wp2_with fail
    refine F2.out.mono ?_
    rintro e w4 ⟨rfl, m4⟩
    have M4 := Lib.hid m4
    clear m4
    go_wp2_with fail
    go_ret
    exact ⟨by rw [HPx.out, Bool.false_or]; rfl, ((M1.out.trans M2.out (by simp)).trans M3.out (by simp)).trans M4.out (by simp)⟩
  · rw [hv] at f1 hp
    have F1 := Lib.hid f1
    have HPx := Lib.hid hp
    clear f1 hp hv
    go_wp2_with fail
    refine F1.out.mono ?_
    rintro e w3 ⟨rfl, m3⟩
    have M3 := Lib.hid m3
    clear m3
    go_wp2_with fail
    go_ret
    exact ⟨by rw [HPx.out, Bool.true_or]; rfl, (M1.out.trans M2.out (by simp)).trans M3.out (by simp)⟩
end Go.Proofs.Ytbladkopbkkamaa
