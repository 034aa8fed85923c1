/- Plain laws of the law's own list of timers. -/
import Derived.Test.YtnfhmflcaolbbaaWheelR
namespace Go.Proofs.Ytnfhmflcaolbbaa
open Go.RowKit
set_option linter.unusedVariables false
set_option linter.unusedSimpArgs false

/-! ### what a step does to the list -/
theorem del_perm {l m : List Tm} (h : l.Perm m) (id : Int) : (del l id).Perm (del m id) := h.filter _
theorem del_at {l : List Tm} (hn : (l.map Tm.id).Nodup) {k : Nat} (hk : k < l.length) {id : Int} (e : l[k].id = id) : del l id = l.take k ++ l.drop (k + 1) := by
  have h1 : l = l.take k ++ l[k] :: l.drop (k + 1) := by rw [List.getElem_cons_drop, List.take_append_drop]
  conv => lhs; rw [h1]
  unfold del
  rw [List.filter_append, List.filter_cons, if_neg (by rw [e]; simp)]
  congr 1
  · refine List.filter_eq_self.2 fun x hx => ?_
    obtain ⟨p, hp, rfl⟩ := List.getElem_of_mem hx
    rw [List.length_take] at hp
    rw [List.getElem_take]
    have : l[p].id ≠ id := fun h => by have := nodup_at hn (p := p) (q := k) (by omega) hk (by rw [h, e]); omega
    simp [this]
  · refine List.filter_eq_self.2 fun x hx => ?_
    obtain ⟨p, hp, rfl⟩ := List.getElem_of_mem hx
    rw [List.length_drop] at hp
    rw [List.getElem_drop]
    have : l[k + 1 + p].id ≠ id := fun h => by have := nodup_at hn (p := k + 1 + p) (q := k) (by omega) hk (by rw [h, e]); omega
    simp [this]
theorem set_parts {l : List Tm} {k : Nat} (hk : k < l.length) (x : Tm) : l.set k x = l.take k ++ x :: l.drop (k + 1) := by
  rw [List.set_eq_take_append_cons_drop, if_pos hk]
theorem set_law {lw l l2 : List Tm} (hp : lw.Perm l) (hn : (l.map Tm.id).Nodup) {k : Nat} (hk : k < l.length) {x : Tm} (e : l[k].id = x.id) (h2 : l2.Perm (del lw x.id ++ [x])) : l2.Perm (l.set k x) ∧ ((l.set k x).map Tm.id).Nodup := by
  refine ⟨?_, ?_⟩
  · rw [set_parts hk]
    refine h2.trans (((del_perm hp _).append_right _).trans ?_)
    rw [del_at hn hk e]
    refine List.Perm.trans ?_ (List.perm_append_comm_assoc _ _ _ |>.symm.trans ?_ : (([x] : List Tm) ++ (l.take k ++ l.drop (k + 1))).Perm _)
    · exact List.perm_append_comm
    · exact List.Perm.refl _
  · have : (l.set k x).map Tm.id = l.map Tm.id := by
      rw [List.map_set, ← e]
      refine List.ext_getElem (by simp) fun i h1 h3 => ?_
      rw [List.getElem_set]
      split
      · next h => subst h; rw [List.getElem_map]
      · rfl
    rw [this]
    exact hn
theorem add_law {lw l l2 : List Tm} (hp : lw.Perm l) (hn : (l.map Tm.id).Nodup) {x : Tm} (e : ∀ q (hq : q < l.length), l[q].id ≠ x.id) (h2 : l2.Perm (del lw x.id ++ [x])) : l2.Perm (l ++ [x]) ∧ ((l ++ [x]).map Tm.id).Nodup := by
  have e2 : ∀ y ∈ l, y.id ≠ x.id := fun y hy => by
    obtain ⟨q, hq, rfl⟩ := List.getElem_of_mem hy
    exact e q hq
  refine ⟨?_, ?_⟩
  · rw [del_none fun y hy => e2 y (hp.subset hy)] at h2
    exact h2.trans (hp.append_right _)
  · rw [List.map_append]
    refine List.nodup_append.2 ⟨hn, by simp, fun a ha b hb => ?_⟩
    obtain ⟨y, hy, rfl⟩ := List.mem_map.1 ha
    simp at hb
    subst hb
    exact e2 y hy
theorem stop_law {lw l : List Tm} (hp : lw.Perm l) (hn : (l.map Tm.id).Nodup) {k : Nat} (hk : k < l.length) {id : Int} (e : l[k].id = id) : hasId lw id = true ∧ (del lw id).Perm (l.take k ++ l.drop (k + 1)) ∧ ((l.take k ++ l.drop (k + 1)).map Tm.id).Nodup := by
  refine ⟨List.any_eq_true.2 ⟨l[k], hp.symm.subset (List.getElem_mem hk), by simp [e]⟩, by rw [← del_at hn hk e]; exact del_perm hp id, ?_⟩
  rw [← del_at hn hk e]
  exact List.Sublist.nodup (List.Sublist.map _ List.filter_sublist) hn
theorem stop_none {lw l : List Tm} (hp : lw.Perm l) {id : Int} (e : ∀ q (hq : q < l.length), l[q].id ≠ id) : hasId lw id = false ∧ del lw id = lw := by
  have e2 : ∀ y ∈ lw, y.id ≠ id := fun y hy => by
    obtain ⟨q, hq, rfl⟩ := List.getElem_of_mem (hp.subset hy)
    exact e q hq
  exact ⟨List.any_eq_false.2 fun y hy => by simpa using e2 y hy, del_none e2⟩
theorem sorted_sublist {l : List Tm} (h : SortedT l) : l.Pairwise (fun a b => ltOf cf b a = false) := List.pairwise_iff_getElem.2 fun i j hi hj hij => h i j hi hj hij
theorem lt_anti {a b : Tm} (h1 : ltOf cf b a = false) (h2 : ltOf cf a b = false) : a = b := by
  rw [lt_cf, decide_eq_false_iff_not] at h1 h2
  cases a; cases b
  simp only [] at h1 h2
  congr 1 <;> omega
theorem sorted_one {l m : List Tm} (hl : SortedT l) (hm : SortedT m) (hp : l.Perm m) : l = m :=
  List.Perm.eq_of_pairwise (le := fun a b => ltOf cf b a = false) (fun a b _ _ h1 h2 => lt_anti h1 h2) (sorted_sublist hl) (sorted_sublist hm) hp
/-- what stays, what goes off -/
def stay (now : Int) (l : List Tm) : List Tm := l.filter fun x => decide (now < x.t)
def gone (now : Int) (l : List Tm) : List Tm := l.filter fun x => !decide (now < x.t)
theorem go_law {lw l off : List Tm} {now : Int} {k : Nat} (hp : lw.Perm l) (hs : SortedT lw) (hk : k ≤ lw.length) (h1 : ∀ j (h : j < lw.length), j < k → lw[j].t ≤ now) (h2 : ∀ h : k < lw.length, now < lw[k].t)
    (ho : off.Perm (gone now l)) (hso : SortedT off) : lw.take k = off ∧ (lw.drop k).Perm (stay now l) ∧ SortedT (lw.drop k) := by
  have ht : ∀ x ∈ lw.take k, (decide (now < x.t)) = false := fun x hx => by
    obtain ⟨p, hp2, rfl⟩ := List.getElem_of_mem hx
    rw [List.length_take] at hp2
    rw [List.getElem_take]
    have := h1 p (by omega) (by omega)
    simp; omega
  have hd : ∀ x ∈ lw.drop k, (decide (now < x.t)) = true := fun x hx => by
    obtain ⟨p, hp2, rfl⟩ := List.getElem_of_mem hx
    rw [List.length_drop] at hp2
    rw [List.getElem_drop]
    have h3 := h2 (by omega)
    have h4 := hs.le (i := k) (j := k + p) (by omega) (by omega) (by omega)
    simp; omega
  have e1 : gone now lw = lw.take k := by
    conv => lhs; rw [← List.take_append_drop k lw]
    unfold gone
    rw [List.filter_append, List.filter_eq_self.2 (fun x hx => by rw [ht x hx]; rfl), List.filter_eq_nil_iff.2 (fun x hx => by rw [hd x hx]; simp), List.append_nil]
  have e2 : stay now lw = lw.drop k := by
    conv => lhs; rw [← List.take_append_drop k lw]
    unfold stay
    rw [List.filter_append, List.filter_eq_nil_iff.2 (fun x hx => by rw [ht x hx]; simp), List.filter_eq_self.2 (fun x hx => hd x hx), List.nil_append]
  have hst : SortedT (lw.take k) := fun i j hi hj hij => by
    rw [List.length_take] at hi hj
    rw [List.getElem_take, List.getElem_take]
    exact hs i j (by omega) (by omega) hij
  refine ⟨sorted_one hst hso ?_, ?_, hs.drop k⟩
  · rw [← e1]
    exact (hp.filter _).trans ho.symm
  · rw [← e2]
    exact hp.filter _
theorem stay_nodup {l : List Tm} (hn : (l.map Tm.id).Nodup) (now : Int) : ((stay now l).map Tm.id).Nodup := List.Sublist.nodup (List.Sublist.map _ List.filter_sublist) hn
theorem stay_next {l : List Tm} {now : Int} {k : Nat} (h : k < l.length) : stay now (l.take (k + 1)) = stay now (l.take k) ++ (if now < l[k].t then [l[k]] else []) := by
  rw [List.take_succ_eq_append_getElem h]
  unfold stay
  rw [List.filter_append]
  congr 1
  by_cases e : now < l[k].t
  · rw [if_pos e, List.filter_cons, if_pos (by simpa using e)]; rfl
  · rw [if_neg e, List.filter_cons, if_neg (by simpa using e)]; rfl
theorem gone_next {l : List Tm} {now : Int} {k : Nat} (h : k < l.length) : gone now (l.take (k + 1)) = gone now (l.take k) ++ (if now < l[k].t then [] else [l[k]]) := by
  rw [List.take_succ_eq_append_getElem h]
  unfold gone
  rw [List.filter_append]
  congr 1
  by_cases e : now < l[k].t
  · rw [if_pos e, List.filter_cons, if_neg (by simpa using e)]; rfl
  · rw [if_neg e, List.filter_cons, if_pos (by simpa using e)]; rfl
theorem ins_law {off m : List Tm} {x : Tm} {j : Nat} (hs : SortedT off) (hp : off.Perm m) (hj : j ≤ off.length) (h1 : ∀ q (h : q < off.length), q < j → ltOf cf off[q] x = true) (h2 : ∀ h : j < off.length, ltOf cf off[j] x = false) :
    SortedT (off.take j ++ ([x] ++ off.drop j)) ∧ (off.take j ++ ([x] ++ off.drop j)).Perm (m ++ [x]) := by
  refine ⟨?_, ?_⟩
  · intro a b ha hb hab
    have hlen : (off.take j ++ ([x] ++ off.drop j)).length = off.length + 1 := by simp; omega
    rw [hlen] at ha hb
    have hat : ∀ (p : Nat) (hp : p < (off.take j ++ ([x] ++ off.drop j)).length), (p < j → ∃ h : p < off.length, (off.take j ++ ([x] ++ off.drop j))[p] = off[p]) ∧ (p = j → (off.take j ++ ([x] ++ off.drop j))[p] = x) ∧ (j < p → ∃ h : p - 1 < off.length, (off.take j ++ ([x] ++ off.drop j))[p] = off[p - 1]) := fun p hp => by
      have hp2 : p < off.length + 1 := by rw [← hlen]; exact hp
      have hlt : (off.take j).length = j := by rw [List.length_take]; omega
      refine ⟨fun h => ⟨by omega, ?_⟩, fun h => ?_, fun h => ⟨by omega, ?_⟩⟩
      · rw [List.getElem_append_left (by omega), List.getElem_take]
      · subst h
        rw [List.getElem_append_right (by omega)]
        simp [hlt]
      · rw [List.getElem_append_right (by omega), List.getElem_append_right (by simp; omega), List.getElem_drop]
        congr 1
        simp only [List.length_cons, List.length_nil, hlt]
        omega
    have hA := hat a (by omega)
    have hB := hat b (by omega)
    have key : ∀ (p q : Nat) (hp : p < off.length) (hq : q < off.length), p < j → j ≤ q → True := fun _ _ _ _ _ _ => trivial
    rcases Nat.lt_trichotomy a j with h | h | h
    · obtain ⟨ha', ea⟩ := hA.1 h
      rw [ea]
      rcases Nat.lt_trichotomy b j with h3 | h3 | h3
      · obtain ⟨hb', eb⟩ := hB.1 h3
        rw [eb]
        exact hs a b ha' hb' hab
      · rw [hB.2.1 h3]
        have h4 := h1 a ha' h
        rw [lt_cf, decide_eq_true_eq] at h4
        rw [lt_cf, decide_eq_false_iff_not]
        omega
      · obtain ⟨hb', eb⟩ := hB.2.2 h3
        rw [eb]
        exact hs a (b - 1) ha' hb' (by omega)
    · rw [hA.2.1 h]
      obtain ⟨hb', eb⟩ := hB.2.2 (by omega)
      rw [eb]
      have h4 := h2 (by omega)
      rw [lt_cf, decide_eq_false_iff_not] at h4
      by_cases hjb : j = b - 1
      · subst hjb
        rw [lt_cf, decide_eq_false_iff_not]
        exact h4
      · have h5 := hs j (b - 1) (by omega) hb' (by omega)
        rw [lt_cf, decide_eq_false_iff_not] at h5
        rw [lt_cf, decide_eq_false_iff_not]
        omega
    · obtain ⟨ha', ea⟩ := hA.2.2 h
      obtain ⟨hb', eb⟩ := hB.2.2 (by omega)
      rw [ea, eb]
      exact hs _ _ ha' hb' (by omega)
  · refine (List.perm_append_comm_assoc _ _ _).trans ?_
    rw [List.take_append_drop]
    exact List.perm_append_comm.trans (hp.append_right _)

/-! ### slices -/
theorem Own.take3 {w : World} {size n c : Nat} {A : Option Addr} {xs : List Value} (h : Own w size A n c xs) {k : Nat} (hk : k ≤ n) : Own w size A k k (xs.take (k * size)) := by
  obtain ⟨h1, h2, h3, h4⟩ := h
  refine ⟨by rw [List.length_take, h1]; exact Nat.min_eq_left (Nat.mul_le_mul_right _ hk), Nat.le_refl _, by omega, ?_⟩
  rcases h4 with ⟨rfl, h5⟩ | ⟨g, o, rfl, hg, hr, hx⟩
  · exact .inl ⟨rfl, by omega⟩
  · refine .inr ⟨g, o, rfl, hg, fun j hj => hr j (Nat.lt_of_lt_of_le hj (Nat.mul_le_mul_right _ (by omega))), fun j u hu => hx j u ?_⟩
    rw [List.getElem?_take] at hu
    split at hu
    · exact hu
    · cases hu
section
variable {P : Program} (w : World)
theorem step_append_Sl {ops : Array Oper} {o : Oper} {a : Act} {K : Act → World → Prop} {Q : Exit → Act → World → Prop} {E : Prop} (hgd : o.guard = none) (s x : Operand) (t : TypeId)
    (ho : o.op = .call { callee := .builtin .append, args := #[s, x], argTypes := #[t, t] })
    (e : TypeId) (i : TypeInfo) (z : Value) (size bytes : Nat) (ht : P.underlying t = some (.slice e)) (hi : P.info? e = some i) (hz : i.zero = some z)
    (hsize : i.size = size) (hby : i.bytes = bytes) (hzs : z.cells.size = size) (hsz : 0 < size)
    (A : Option Addr) (n c : Nat) (xs : List Value) (hs : a.eval s = .slice A n c) (hown : Own w size A n c xs)
    (B : Option Addr) (m d : Nat) (news : List Value) (hx : a.eval x = .slice B m d) (hsl : Sl w size B m news) (h1 : ∀ u ∈ news, u.oneCell' = true)
    (h63 : n + m ≤ maxLen) (hbytes : (n + m) * bytes ≤ 140737488355328)
    (h : ∀ A' c' w', Own w' size A' (n + m) c' (xs ++ news) → w.grownBy w' (blk A) → (blk A' = blk A ∨ ∃ g, blk A' = some g ∧ w.heap.size ≤ g) → K (a.put o.dst (.slice A' (n + m) c')) w') :
    if Region.wanted o (yielded ops a.tmps) = true then Oper.wp P o a w K Q else E := by
  have hw : Region.wanted o (yielded ops a.tmps) = true := by simp [Region.wanted, hgd]
  rw [if_pos hw]
  obtain ⟨A', c', w', hrun, h2, h3, h4⟩ := run_append_Sl (P := P) w t o.type e i z size bytes ht hi hz hsize hby hzs hsz A n c xs hown B m d news hsl h1 h63 hbytes
  unfold Oper.wp execOp
  simp only [ho, resolve, invoke, builtin, Sem.run_bind, Sem.run_pure, Result.andThen_ok, List.map_toArray, List.map_cons, List.map_nil, hs, hx, hrun]
  exact h A' c' w' h2 h3 h4
end
theorem tc_one (l : List Tm) : ∀ u ∈ tc l, u.oneCell' = true := by
  intro u hu
  obtain ⟨x, _, hx⟩ := List.mem_flatMap.1 hu
  exact Tm.one x u hx
theorem tc_take (l : List Tm) (k : Nat) : (tc l).take (k * 2) = tc (l.take k) := cl_take Tm.cells_len l k
theorem tc_drop (l : List Tm) (k : Nat) : (tc l).drop (k * 2) = tc (l.drop k) := cl_drop Tm.cells_len l k
theorem tc_len2 (l : List Tm) : (tc l).length = l.length * 2 := cl_len Tm.cells_len l
theorem tc_set {l : List Tm} {k : Nat} (hk : k < l.length) (t : Int) : (tc l).set (k * 2 + 1) (.int .i64 t) = tc (l.set k ⟨l[k].id, t⟩) := by
  have h1 : tc l = tc (l.take k) ++ (l[k].cells ++ tc (l.drop (k + 1))) := by
    conv => lhs; rw [show l = l.take k ++ ([l[k]] ++ l.drop (k + 1)) by rw [List.singleton_append, List.getElem_cons_drop, List.take_append_drop]]
    rw [tc_app, tc_app]
    simp [tc]
  rw [set_parts hk, h1, show l.take k ++ (⟨l[k].id, t⟩ : Tm) :: l.drop (k + 1) = l.take k ++ ([⟨l[k].id, t⟩] ++ l.drop (k + 1)) from rfl, tc_app, tc_app]
  have hl : (tc (l.take k)).length = k * 2 := by rw [tc_len2, List.length_take]; congr 1; omega
  rw [List.set_append_right _ _ (by omega), hl, show k * 2 + 1 - k * 2 = 1 by omega]
  simp [tc, Tm.cells]
theorem del_sorted {lw : List Tm} (h : SortedT lw) (id : Int) : SortedT (del lw id) := by
  have h9 : (del lw id).Pairwise (fun a b => ltOf cf b a = false) := List.Pairwise.sublist (List.filter_sublist) (sorted_sublist h)
  intro a b ha hb hab
  exact List.pairwise_iff_getElem.1 h9 a b ha hb hab
/-- the numbers of a slice's cut -/
theorem cut_nums {p n c : Nat} (h : p < n) (h2 : n ≤ c) (h3 : n ≤ 60) : (0 : Int) ≤ (p : Int) ∧ (p : Int) < (n : Int) ∧ (p : Int) ≤ (n : Int) ∧ (p : Int) + 1 ≤ (n : Int) ∧ (0 : Int) ≤ (p : Int) + 1 ∧ wrap64 ((p : Int) + 1) = (p : Int) + 1 ∧ (p : Int) ≤ (c : Int) ∧ (n : Int) ≤ (c : Int) ∧ (p : Int) ≤ (p : Int) :=
  ⟨by omega, by omega, by omega, by omega, by omega, IntWalk.wrap64_in _ ⟨by omega, by omega⟩, by omega, by omega, by omega⟩
end Go.Proofs.Ytnfhmflcaolbbaa
