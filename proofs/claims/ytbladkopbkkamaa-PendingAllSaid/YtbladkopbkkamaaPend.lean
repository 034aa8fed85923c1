/- Package pending: what lets go of entries; DeleteFunc at entries. -/
import Derived.Test.YtbladkopbkkamaaJudge
import Derived.Test.YtbladkopbkkamaaJudgeB
import Derived.Test.YtbladkopbkkamaaClear
namespace Go.Proofs.Ytbladkopbkkamaa
open Go.RowKit
attribute [local go_sem ↓] Go.wp_at_zero Go.wp_at_succ
set_option linter.unusedVariables false
set_option linter.unusedSimpArgs false

theorem done11_any (gb : Nat) (e u : En) (w : World) (hC : Cells w gb e.cells) :
    Calls Try.prog 44 #[u.val, .pointer (some ⟨gb, 0, none⟩)] w (Only w (.bool (same u e))) := by
  have hs := fun W => same_ent u e W
  obtain ⟨e0, e1, e2, e3, e4, e5, e6⟩ := e
  obtain ⟨u0, u1, u2, u3, u4, u5, u6⟩ := u
  unfold En.val En.cells at *
  simp only [] at *
  generalize same _ _ = s0 at *
  have HS := Lib.hid hs
  have hlt := hC.2.2
  have c0 : w.cell? ⟨gb, 0, none⟩ = some (.int .i64 e0) := hC.1 0 _ rfl
  have c1 : w.cell? ⟨gb, 1, none⟩ = some (.int .i64 e1) := hC.1 1 _ rfl
  have c2 : w.cell? ⟨gb, 2, none⟩ = some (.int .i64 e2) := hC.1 2 _ rfl
  have c3 : w.cell? ⟨gb, 3, none⟩ = some (.int .i64 e3) := hC.1 3 _ rfl
  have c4 : w.cell? ⟨gb, 4, none⟩ = some (.int .i64 e4) := hC.1 4 _ rfl
  have c5 : w.cell? ⟨gb, 5, none⟩ = some (.int .i64 e5) := hC.1 5 _ rfl
  have c6 : w.cell? ⟨gb, 6, none⟩ = some (.string e6) := hC.1 6 _ rfl
  clear hs hC
  go_enter Try.func44, Try.ntmps44
  go_wp2_with fail
  refine (HS.out _).mono ?_
  rintro e w1 ⟨rfl, m1⟩
  have M1 := Lib.hid (((Mod.refl (fun _ => False) w).alloc _).trans m1 (by simp))
  clear m1
  go_wp2_with fail
  go_ret
  exact ⟨rfl, M1.out⟩
theorem index11 (A : Option Addr) (l : List En) (c gb : Nat) (p : En → Bool) (w : World) (hl : Sl w 7 A l.length (ecells l))
    (hp : ∀ (u : En) (W : World), Mod (fun _ => False) w W → Calls Try.prog 44 #[u.val, .pointer (some ⟨gb, 0, none⟩)] W (Only W (.bool (p u)))) :
    Calls Try.prog 48 #[.slice A l.length c, .func (.func 44) #[] #[.pointer (some ⟨gb, 0, none⟩)]] w (Found w (l.any p)) := by
  have hb1 := hl.2.1
  unfold maxLen at hb1
  have HL := Lib.hid hl
  have HP := Lib.hid hp
  clear hl hp
  go_enter Try.func48, Try.ntmps48
  go_wp2_with fail
  go_loopg [5, 8] l.length (fun q _ i wr => ∃ k : Nat, k ≤ l.length ∧ i = .int .i64 k ∧ Hid (∀ j (h1 : j < l.length), j < k → p l[j] = false) ∧ Hid (Mod (fun _ => False) w wr) ∧ q + k = l.length)
  case atStart => exact ⟨0, by omega, rfl, Lib.hid fun j _ h => absurd h (by omega), Lib.hid (Mod.refl _ _), by omega⟩
  case round =>
    obtain ⟨k, hk, rfl, hE, hM, hq⟩ := hrel
    by_cases hlt : k < l.length
    · obtain ⟨g, o, rfl, hg, q0, q1, q2, q3, q4, q5, q6⟩ := (HL.out.none_ hM.out).ent hlt
      have hc := HP.out l[k] _ hM.out
      unfold En.val at hc
      cases hv : p l[k]
      · rw [hv] at hc
        have HC := Lib.hid hc
        have HV := Lib.hid hv
        clear hc hv
        generalize hxx : l[k] = x at *
        have HX := Lib.hid hxx
        clear hxx
        go_wp2_with fail
        refine HC.out.mono ?_
        rintro e w1 ⟨rfl, m1⟩
        have M1 := Lib.hid (hM.out.trans m1 (by simp))
        clear m1
        go_wp2_with fail
        go_roundg (l.length - (k + 1))
        case measure => omega
        case rel =>
          refine ⟨k + 1, by omega, by go_num, Lib.hid fun j h1 hj => ?_, M1, by omega⟩
          by_cases e : j = k
          · subst e; rw [HX.out]; exact HV.out
          · exact hE.out j h1 (by omega)
      · have HA := Lib.hid (any_at hlt hv)
        rw [hv] at hc
        have HC := Lib.hid hc
        clear hc hv
        generalize l[k] = x at *
        go_wp2_with fail
        refine HC.out.mono ?_
        rintro e w1 ⟨rfl, m1⟩
        have M1 := Lib.hid (hM.out.trans m1 (by simp))
        clear m1
        go_wp2_with fail
        go_ret
        exact ⟨_, rfl, by rw [HA.out]; simp, M1.out⟩
    · have HA := Lib.hid (any_none (p := p) fun j h1 => hE.out j h1 (by omega))
      go_wp2_with fail
      go_ret
      exact ⟨_, rfl, by rw [HA.out]; rfl, hM.out⟩

theorem contains11 (A : Option Addr) (l : List En) (c gb : Nat) (p : En → Bool) (w : World) (hl : Sl w 7 A l.length (ecells l))
    (hp : ∀ (u : En) (W : World), Mod (fun _ => False) w W → Calls Try.prog 44 #[u.val, .pointer (some ⟨gb, 0, none⟩)] W (Only W (.bool (p u)))) :
    Calls Try.prog 36 #[.slice A l.length c, .func (.func 44) #[] #[.pointer (some ⟨gb, 0, none⟩)]] w (Only w (.bool (l.any p))) := by
  have HI := Lib.hid (index11 A l c gb p w hl hp)
  clear hl hp
  go_enter Try.func36, Try.ntmps36
  go_wp2_with fail
  refine HI.out.mono ?_
  rintro e w1 ⟨r, rfl, hr, m1⟩
  have HR := Lib.hid hr
  clear hr
  go_wp2_with fail
  go_ret
  exact ⟨by rw [← HR.out]; rfl, m1⟩


theorem done1_any (A : Option Addr) (l : List En) (c bl : Nat) (e : En) (w : World) (hl : Sl w 7 A l.length (ecells l)) (hB : Cells w bl [.slice A l.length c]) :
    Calls Try.prog 43 #[e.val, .pointer (some ⟨bl, 0, none⟩)] w (Only w (.bool (l.any fun u => same u e))) := by
  have hmf : ∀ (fn : Fn) (first cap : Array Value) (w : World), (Instr.makeFunc fn first cap).run Try.prog w = .ok (.func fn first cap) w := fun _ _ _ _ => rfl
  have hlt := hB.2.2
  have c0 : w.cell? ⟨bl, 0, none⟩ = some (.slice A l.length c) := hB.1 0 _ rfl
  have hbox : Cells (w.alloc (.cells #[.int .i64 e.fr, .int .i64 e.bo, .int .i64 e.se, .int .i64 e.od, .int .i64 e.lv, .int .i64 e.st, .string e.da] 30)) w.heap.size e.cells := Cells.new w _ _
  have HC := Lib.hid (contains11 A l c w.heap.size (fun u => same u e) _ (hl.none_ ((Mod.refl _ w).alloc (.cells #[.int .i64 e.fr, .int .i64 e.bo, .int .i64 e.se, .int .i64 e.od, .int .i64 e.lv, .int .i64 e.st, .string e.da] 30))) (fun u W hm => done11_any w.heap.size e u W (hbox.mod hm (by simp))))
  clear hl hB hbox
  generalize (l.any fun u => same u e) = v at *
  unfold En.val
  go_enter Try.func43, Try.ntmps43
  go_wp2_with fail
  refine HC.out.mono ?_
  rintro e w1 ⟨rfl, m1⟩
  have M1 := Lib.hid (((Mod.refl (fun _ => False) w).alloc _).trans m1 (by simp))
  clear m1
  go_wp2_with fail
  go_ret
  exact ⟨rfl, M1.out⟩
/-- just where the first is -/
def FoundX (w : World) (l : List En) (p : En → Bool) (e : Ending) (w' : World) : Prop :=
  ∃ r : Int, e = .returned (.int .i64 r) ∧ ((∃ k, ∃ h : k < l.length, r = k ∧ (∀ j (h1 : j < l.length), j < k → p l[j] = false) ∧ p l[k] = true) ∨ (r = -1 ∧ ∀ j (h1 : j < l.length), p l[j] = false)) ∧ Mod (fun _ => False) w w'
theorem indexX (A : Option Addr) (l : List En) (c gb : Nat) (p : En → Bool) (w : World) (hl : Sl w 7 A l.length (ecells l))
    (hp : ∀ (u : En) (W : World), Mod (fun _ => False) w W → Calls Try.prog 43 #[u.val, .pointer (some ⟨gb, 0, none⟩)] W (Only W (.bool (p u)))) :
    Calls Try.prog 48 #[.slice A l.length c, .func (.func 43) #[] #[.pointer (some ⟨gb, 0, none⟩)]] w (FoundX w l p) := by
  have hb1 := hl.2.1
  unfold maxLen at hb1
  have HL := Lib.hid hl
  have HP := Lib.hid hp
  clear hl hp
  go_enter Try.func48, Try.ntmps48
  go_wp2_with fail
  go_loopg [5, 8] l.length (fun q _ i wr => ∃ k : Nat, k ≤ l.length ∧ i = .int .i64 k ∧ Hid (∀ j (h1 : j < l.length), j < k → p l[j] = false) ∧ Hid (Mod (fun _ => False) w wr) ∧ q + k = l.length)
  case atStart => exact ⟨0, by omega, rfl, Lib.hid fun j _ h => absurd h (by omega), Lib.hid (Mod.refl _ _), by omega⟩
  case round =>
    obtain ⟨k, hk, rfl, hE, hM, hq⟩ := hrel
    by_cases hlt : k < l.length
    · obtain ⟨g, o, rfl, hg, q0, q1, q2, q3, q4, q5, q6⟩ := (HL.out.none_ hM.out).ent hlt
      have hc := HP.out l[k] _ hM.out
      unfold En.val at hc
      cases hv : p l[k]
      · rw [hv] at hc
        have HC := Lib.hid hc
        have HV := Lib.hid hv
        clear hc hv
        generalize hxx : l[k] = x at *
        have HX := Lib.hid hxx
        clear hxx
        go_wp2_with fail
        refine HC.out.mono ?_
        rintro e w1 ⟨rfl, m1⟩
        have M1 := Lib.hid (hM.out.trans m1 (by simp))
        clear m1
        go_wp2_with fail
        go_roundg (l.length - (k + 1))
        case measure => omega
        case rel =>
          refine ⟨k + 1, by omega, by go_num, Lib.hid fun j h1 hj => ?_, M1, by omega⟩
          by_cases e : j = k
          · subst e; rw [HX.out]; exact HV.out
          · exact hE.out j h1 (by omega)
      · have HE := hE
        have HV := Lib.hid hv
        rw [hv] at hc
        have HC := Lib.hid hc
        clear hc hv
        generalize hxx : l[k] = x at *
        have HX := Lib.hid hxx
        clear hxx
        go_wp2_with fail
        refine HC.out.mono ?_
        rintro e w1 ⟨rfl, m1⟩
        have M1 := Lib.hid (hM.out.trans m1 (by simp))
        clear m1
        go_wp2_with fail
        go_ret
        exact ⟨_, rfl, .inl ⟨k, hlt, rfl, HE.out, by rw [HX.out]; exact HV.out⟩, M1.out⟩
    · have HA := Lib.hid (fun j (h1 : j < l.length) => hE.out j h1 (by omega))
      go_wp2_with fail
      go_ret
      exact ⟨_, rfl, .inr ⟨rfl, HA.out⟩, hM.out⟩


/-- a whole element is written -/
theorem Own.setK {α : Type} {f : α → List Value} {C : Nat} (hf : ∀ x, (f x).length = C) (hC : 0 < C) {w : World} {g o n c : Nat} {l : List α} (h : Own w C (some ⟨g, o, none⟩) n c (l.flatMap f)) (hl : l.length = n) {i : Nat} (hi : i < n) (x : α) : Own (w.setCells g (o + i * C) (f x)) C (some ⟨g, o, none⟩) n c ((l.set i x).flatMap f) := by
  have hnc := h.2.1
  have h1 : i * C + C ≤ c * C := by rw [← Nat.succ_mul]; exact Nat.mul_le_mul_right _ (by omega)
  obtain ⟨ys, hy1, hy2⟩ := h.puts (k := i * C) (f x) (by rw [hf]; exact h1)
  have e : ys = (l.set i x).flatMap f := by
    have hlen : ((l.set i x).flatMap f).length = n * C := by rw [cl_len hf, List.length_set, hl]
    apply List.ext_getElem?
    intro j
    by_cases hj : j < n * C
    · have hjn : j / C < n := (Nat.div_lt_iff_lt_mul hC).2 hj
      have hjm : j % C < C := Nat.mod_lt _ hC
      have hje : j = j / C * C + j % C := by rw [Nat.mul_comm]; exact (Nat.div_add_mod j C).symm
      generalize j / C = a at *
      generalize j % C = b at *
      subst hje
      have e1 := cl_at hf (l.set i x) (i := a) (j := b) (by rw [List.length_set, hl]; exact hjn) hjm
      rw [hy2 _ hj, hf, e1]
      by_cases ea : a = i
      · subst ea
        rw [if_pos (by omega), Nat.add_sub_cancel_left, List.getElem_set_self]
      · rw [List.getElem_set_ne (fun h => ea h.symm), cl_at hf l (by omega) hjm, if_neg]
        rintro ⟨h2, h3⟩
        rcases Nat.lt_or_ge a i with hlt | hge
        · have : a * C + C ≤ i * C := by rw [← Nat.succ_mul]; exact Nat.mul_le_mul_right _ hlt
          omega
        · have : i * C + C ≤ a * C := by rw [← Nat.succ_mul]; exact Nat.mul_le_mul_right _ (by omega)
          omega
    · rw [List.getElem?_eq_none (by rw [hy1.1]; omega), List.getElem?_eq_none (by rw [hlen]; omega)]
  rwa [e] at hy1
theorem filt_next {l : List En} {p : En → Bool} {j : Nat} (h : j < l.length) : (l.take (j + 1)).filter (fun x => !p x) = (l.take j).filter (fun x => !p x) ++ (if p l[j] then [] else [l[j]]) := by
  rw [List.take_succ_eq_append_getElem h, List.filter_append]
  congr 1
  cases hp : p l[j] <;> simp [hp]
/-- the first i are what stays of the first j; the rest is as it was -/
def Dl (l : List En) (p : En → Bool) (i j : Nat) (ys : List En) : Prop := ys.length = l.length ∧ ys.take i = (l.take j).filter (fun x => !p x) ∧ ∀ k, j ≤ k → ys[k]? = l[k]?

theorem zeroE (w : World) : (zeroValue 30).run Try.prog w = .ok (.agg #[.int .i64 0, .int .i64 0, .int .i64 0, .int .i64 0, .int .i64 0, .int .i64 0, .string ByteArray.empty]) w := by kernel_rfl
theorem zero1 : ∀ v ∈ (Value.agg #[.int .i64 0, .int .i64 0, .int .i64 0, .int .i64 0, .int .i64 0, .int .i64 0, .string ByteArray.empty]).cells, v.oneCell' = true := by
  intro v hv
  simp [Value.cells] at hv
  rcases hv with rfl | rfl <;> rfl
set_option maxHeartbeats 3200000 in
theorem delete_any (g o : Nat) (l : List En) (c bl : Nat) (p : En → Bool) (w : World) (hl : Own w 7 (some ⟨g, o, none⟩) l.length c (ecells l))
    (hp : ∀ (u : En) (W : World), Mod (fun q => q = g) w W → Calls Try.prog 43 #[u.val, .pointer (some ⟨bl, 0, none⟩)] W (Only W (.bool (p u)))) :
    Calls Try.prog 42 #[.slice (some ⟨g, o, none⟩) l.length c, .func (.func 43) #[] #[.pointer (some ⟨bl, 0, none⟩)]] w
      fun e w' => e = .returned (.slice (some ⟨g, o, none⟩) (l.filter fun x => !p x).length c) ∧ Own w' 7 (some ⟨g, o, none⟩) (l.filter fun x => !p x).length c (ecells (l.filter fun x => !p x)) ∧ Mod (fun q => q = g) w w' := by
  have hb1 := hl.2.1
  have hb2 := hl.2.2.1
  unfold maxLen at hb2
  have HL := Lib.hid hl
  have HP := Lib.hid hp
  have HX := Lib.hid (indexX (some ⟨g, o, none⟩) l c bl p w (Sl.of_own hl) (fun u W hm => hp u W (hm.mono (by simp))))
  clear hl hp
  go_enter Try.func42, Try.ntmps42
  go_wp2_with fail
  refine HX.out.mono ?_
  rintro e w1 ⟨r, rfl, hr, m1⟩
  rcases hr with ⟨k0, hk0, rfl, hE, hV⟩ | ⟨rfl, hN⟩
  · have M1 := Lib.hid m1
    have O1 := Lib.hid (HL.out.mod m1 (by simp))
    have hdl : Dl l p k0 (k0 + 1) l := by
      refine ⟨rfl, ?_, fun k _ => rfl⟩
      rw [filt_next hk0, hV, if_pos rfl, List.append_nil]
      refine (List.filter_eq_self.2 fun x hx => ?_).symm
      obtain ⟨j, hj, rfl⟩ := List.getElem_of_mem hx
      rw [List.length_take] at hj
      rw [List.getElem_take, hE j (by omega) (by omega)]; rfl
    have HD := Lib.hid hdl
    have hk1 : ¬ ((k0 : Int) = -1) := by omega
    clear m1 hE hV hdl HX
    go_wp2_with fail
    go_loopg [5, 6, 7] (l.length - (k0 + 1)) (fun m v5 v6 v7 wr => ∃ (i j : Nat) (ys : List En), i < j ∧ j ≤ l.length ∧ v5 = .int .i64 i ∧ v6 = .int .i64 j ∧ Hid (Dl l p i j ys) ∧ Hid (Own wr 7 (some ⟨g, o, none⟩) l.length c (ecells ys)) ∧ Hid (Mod (fun q => q = g) w wr) ∧ m + j = l.length)
    case atStart => exact ⟨k0, k0 + 1, l, by omega, by omega, rfl, by go_num, HD, O1, Lib.hid (M1.out.mono (by simp)), Nat.sub_add_cancel (show k0 + 1 ≤ l.length from hk0)⟩
    case round =>
      obtain ⟨i, j, ys, hij, hj, rfl, rfl, HDl, HO, HM, hm⟩ := hrel
      have hyl := HDl.out.1
      by_cases hlt : j < l.length
      · obtain ⟨gg, oo, e', hg, q0, q1, q2, q3, q4, q5, q6⟩ := (Sl.of_own HO.out).ent (k := j) (by omega)
        injection e' with e'
        injection e' with e1 e2
        subst e1 e2
        have hyj : ys[j] = l[j] := by
          have := HDl.out.2.2 j (Nat.le_refl _)
          rw [List.getElem?_eq_getElem (by omega), List.getElem?_eq_getElem hlt] at this
          injection this
        rw [hyj] at q0 q1 q2 q3 q4 q5 q6
        have hc := fun W hm => HP.out l[j] W hm
        unfold En.val at hc
        have HC := Lib.hid hc
        have hnext := Lib.hid (filt_next (p := p) hlt)
        have j0 : (0 : Int) ≤ (j : Int) := by omega
        have j1 : (j : Int) < (l.length : Int) := by omega
        have i0 : (0 : Int) ≤ (i : Int) := by omega
        have i1 : (i : Int) < (l.length : Int) := by omega
        cases hv : p l[j]
        · rw [hv] at hnext
          generalize l[j] = x at *
          go_wp2_with fail
          refine (HC.out _ (HM.out.alloc _)).mono ?_
          rintro e w2 ⟨rfl, m2⟩
          rw [hv]
          have hbx : Cells (wr.alloc (.cells #[.int .i64 x.fr, .int .i64 x.bo, .int .i64 x.se, .int .i64 x.od, .int .i64 x.lv, .int .i64 x.st, .string x.da] 30)) wr.heap.size x.cells := Cells.new wr _ _
          have hby := hbx.mod m2 (by simp)
          have z0 : w2.cell? ⟨wr.heap.size, 0, none⟩ = some (.int .i64 x.fr) := hby.1 0 _ rfl
          have z1 : w2.cell? ⟨wr.heap.size, 1, none⟩ = some (.int .i64 x.bo) := hby.1 1 _ rfl
          have z2 : w2.cell? ⟨wr.heap.size, 2, none⟩ = some (.int .i64 x.se) := hby.1 2 _ rfl
          have z3 : w2.cell? ⟨wr.heap.size, 3, none⟩ = some (.int .i64 x.od) := hby.1 3 _ rfl
          have z4 : w2.cell? ⟨wr.heap.size, 4, none⟩ = some (.int .i64 x.lv) := hby.1 4 _ rfl
          have z5 : w2.cell? ⟨wr.heap.size, 5, none⟩ = some (.int .i64 x.st) := hby.1 5 _ rfl
          have z6 : w2.cell? ⟨wr.heap.size, 6, none⟩ = some (.string x.da) := hby.1 6 _ rfl
          have O2 := Lib.hid ((HO.out.alloc (.cells #[.int .i64 x.fr, .int .i64 x.bo, .int .i64 x.se, .int .i64 x.od, .int .i64 x.lv, .int .i64 x.st, .string x.da] 30)).mod m2 (by simp))
          obtain ⟨gg, oo, e', _, y0, y1, y2, y3, y4, y5, y6⟩ := (Sl.of_own O2.out).ent (k := i) (by omega)
          injection e' with e'
          injection e' with e1 e2
          subst e1 e2
          have fz : ∀ q, q < 7 → w2.frozen? ⟨g, o + i * 7 + q, none⟩ = false := fun q hq => by
            rcases O2.out.2.2.2 with ⟨h, _⟩ | ⟨g', o', e', _, hr, _⟩
            · cases h
            · injection e' with e'
              injection e' with e1 e2
              subst e1 e2
              rw [Nat.add_assoc]
              exact (hr (i * 7 + q) (by omega)).2
          have f0 := fz 0 (by omega)
          have f1 := fz 1 (by omega)
          have f2 := fz 2 (by omega)
          have f3 := fz 3 (by omega)
          have f4 := fz 4 (by omega)
          have f5 := fz 5 (by omega)
          have f6 := fz 6 (by omega)
          rw [Nat.add_zero] at f0
          have O3 := Lib.hid (O2.out.setK En.cells_len (by omega) hyl (show i < l.length by omega) x)
          have M3 := Lib.hid (Mod.grown ((HM.out.alloc (.cells #[.int .i64 x.fr, .int .i64 x.bo, .int .i64 x.se, .int .i64 x.od, .int .i64 x.lv, .int .i64 x.st, .string x.da] 30)).trans m2 (by simp)) (grown_setCells w2 g (o + i * 7) x.cells) (fun q e => by injection e with e; exact .inl e.symm))
          have D3 := Lib.hid (show Dl l p (i + 1) (j + 1) (ys.set i x) by
            obtain ⟨d1, d2, d3⟩ := HDl.out
            refine ⟨by rw [List.length_set]; exact d1, ?_, fun k hk => ?_⟩
            · rw [hnext.out, ← d2, List.take_succ_eq_append_getElem (by rw [List.length_set]; omega), List.take_set, List.set_eq_of_length_le (by rw [List.length_take]; omega), List.getElem_set_self]
              rfl
            · rw [List.getElem?_set_ne (by omega)]
              exact d3 k (by omega))
          clear fz hbx hby m2
          go_wp2_with fail
          go_roundg (l.length - (j + 1))
          case measure => omega
          case rel => exact ⟨i + 1, j + 1, ys.set i x, by omega, by omega, by go_num, by go_num, D3, O3, M3, by omega⟩
        · rw [hv] at hnext
          have D3 := Lib.hid (show Dl l p i (j + 1) ys by
            obtain ⟨d1, d2, d3⟩ := HDl.out
            exact ⟨d1, by rw [hnext.out, d2, if_pos rfl, List.append_nil], fun k hk => d3 k (by omega)⟩)
          generalize l[j] = x at *
          go_wp2_with fail
          refine (HC.out _ (HM.out.alloc _)).mono ?_
          rintro e w2 ⟨rfl, m2⟩
          rw [hv]
          have O2 := Lib.hid ((HO.out.alloc (.cells #[.int .i64 x.fr, .int .i64 x.bo, .int .i64 x.se, .int .i64 x.od, .int .i64 x.lv, .int .i64 x.st, .string x.da] 30)).mod m2 (by simp))
          have M2 := Lib.hid ((HM.out.alloc (.cells #[.int .i64 x.fr, .int .i64 x.bo, .int .i64 x.se, .int .i64 x.od, .int .i64 x.lv, .int .i64 x.st, .string x.da] 30)).trans m2 (by simp))
          clear m2
          go_wp2_with fail
          go_roundg (l.length - (j + 1))
          case measure => omega
          case rel => exact ⟨i, j + 1, ys, by omega, by omega, rfl, by go_num, D3, O2, M2, by omega⟩
      · obtain rfl : j = l.length := by omega
        obtain ⟨d1, d2, d3⟩ := HDl.out
        rw [List.take_length] at d2
        have hlen : (l.filter fun x => !p x).length = i := by rw [← d2, List.length_take]; omega
        have i0 : (0 : Int) ≤ (i : Int) := by omega
        have i1 : (i : Int) ≤ (l.length : Int) := by omega
        have i2 : (i : Int) ≤ (c : Int) := by omega
        have hic : ¬ c = i := by omega
        have hil : i < l.length := by omega
        have HD2 := Lib.hid d2
        clear d2 d3
        obtain ⟨w3, hcl, ho3, hg3⟩ := run_clear_Own (P := Try.prog) (size := 7) 23 30 0 (.agg #[.int .i64 0, .int .i64 0, .int .i64 0, .int .i64 0, .int .i64 0, .int .i64 0, .string ByteArray.empty]) Try.underlying23 zeroE rfl zero1 (by decide) HO.out hil (c - i)
        have O3 := Lib.hid (show Own w3 7 (some ⟨g, o, none⟩) i c (ecells (l.filter fun x => !p x)) by
          rw [← HD2.out, show ecells (ys.take i) = (ecells ys).take (i * 7) from (cl_take En.cells_len ys i).symm]; exact ho3)
        have M3 := Lib.hid (HM.out.grown hg3 (fun q e => by injection e with e; exact .inl e.symm))
        clear ho3 hg3
        go_wp2_with fail
        go_ret
        refine ⟨?_, by rw [hlen]; exact O3.out, M3.out⟩
        rw [hlen]
        rfl
  · have hfl : (l.filter fun x => !p x) = l := List.filter_eq_self.2 fun x hx => by
      obtain ⟨j, hj, rfl⟩ := List.getElem_of_mem hx
      rw [hN j hj]; rfl
    have O1 := Lib.hid (HL.out.mod m1 (by simp))
    have M1 := Lib.hid m1
    clear m1 hN HX
    go_wp2_with fail
    go_ret
    refine ⟨?_, by rw [hfl]; exact O1.out, M1.out.mono (by simp)⟩
    rw [hfl]
    rfl
end Go.Proofs.Ytbladkopbkkamaa
