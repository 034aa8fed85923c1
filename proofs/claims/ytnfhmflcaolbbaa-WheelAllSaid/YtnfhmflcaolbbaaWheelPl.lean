/- Plain laws of timers that are set, in order. -/
import Derived.Test.YtnfhmflcaolbbaaWheelB
namespace Go.Proofs.Ytnfhmflcaolbbaa
open Go.RowKit
set_option linter.unusedVariables false
set_option linter.unusedSimpArgs false

theorem SortedT.le {l : List Tm} (h : SortedT l) {i j : Nat} (hi : i < l.length) (hj : j < l.length) (hij : i ≤ j) : l[i].t ≤ l[j].t := by
  by_cases e : i = j
  · subst e; exact Int.le_refl _
  · have h2 := h i j hi hj (by omega)
    rw [lt_cf, decide_eq_false_iff_not] at h2
    omega
theorem SortedT.drop {l : List Tm} (h : SortedT l) (k : Nat) : SortedT (l.drop k) := by
  intro i j hi hj hij
  rw [List.length_drop] at hi hj
  rw [List.getElem_drop, List.getElem_drop]
  exact h _ _ (by omega) (by omega) (by omega)
/-- just the timers of P, each once, in order -/
def Wh (T : Nat → Nat) (P : Nat → Prop) (l : List Tm) : Prop :=
  SortedT l ∧ (l.map Tm.id).Nodup ∧ (∀ x ∈ l, ∃ j : Nat, P j ∧ x = ⟨(j : Int), (T j : Int)⟩) ∧ ∀ j, P j → (⟨(j : Int), (T j : Int)⟩ : Tm) ∈ l
theorem Wh.nil (T : Nat → Nat) : Wh T (fun j => j < 0) [] := ⟨fun i j hi => absurd hi (by simp), by simp, by simp, fun j h => absurd h (by omega)⟩
theorem Wh.congr {T : Nat → Nat} {P Q : Nat → Prop} {l : List Tm} (h : Wh T P l) (hpq : ∀ j, P j ↔ Q j) : Wh T Q l :=
  ⟨h.1, h.2.1, fun x hx => by obtain ⟨j, h1, h2⟩ := h.2.2.1 x hx; exact ⟨j, (hpq j).1 h1, h2⟩, fun j hj => h.2.2.2 j ((hpq j).2 hj)⟩
theorem Wh.add {T : Nat → Nat} {l l2 : List Tm} {i : Nat} (h : Wh T (fun j => j < i) l) (hp : l2.Perm (del l (i : Int) ++ [⟨(i : Int), (T i : Int)⟩])) (hs : SortedT l2) : Wh T (fun j => j < i + 1) l2 ∧ l2.length = l.length + 1 := by
  have hnot : ∀ x ∈ l, x.id ≠ (i : Int) := fun x hx => by
    obtain ⟨j, hj, rfl⟩ := h.2.2.1 x hx
    show (j : Int) ≠ i
    omega
  rw [del_none hnot] at hp
  refine ⟨⟨hs, ?_, fun x hx => ?_, fun j hj => ?_⟩, by rw [hp.length_eq]; simp⟩
  · rw [(hp.map Tm.id).nodup_iff, List.map_append]
    refine List.nodup_append.2 ⟨h.2.1, by simp, fun a ha b hb => ?_⟩
    obtain ⟨x, hx, rfl⟩ := List.mem_map.1 ha
    simp at hb
    subst hb
    exact hnot x hx
  · have h2 := hp.subset hx
    rcases List.mem_append.1 h2 with h2 | h2
    · obtain ⟨j, h3, h4⟩ := h.2.2.1 x h2
      exact ⟨j, by omega, h4⟩
    · simp at h2
      exact ⟨i, by omega, h2⟩
  · refine hp.symm.subset ?_
    by_cases e : j = i
    · subst e; simp
    · exact List.mem_append_left _ (h.2.2.2 j (by omega))
theorem Wh.go {T : Nat → Nat} {P : Nat → Prop} {l : List Tm} {k : Nat} {now : Int} (h : Wh T P l) (hk : k ≤ l.length) (h1 : ∀ j (h : j < l.length), j < k → l[j].t ≤ now) (h2 : ∀ h : k < l.length, now < l[k].t) :
    Wh T (fun j => P j ∧ now < T j) (l.drop k) ∧ (∀ q (hq : q < l.length), q < k → ∃ j : Nat, P j ∧ (T j : Int) ≤ now ∧ l[q] = ⟨(j : Int), (T j : Int)⟩) ∧ ∀ j, P j → (T j : Int) ≤ now → ∃ q, q < k ∧ l[q]? = some ⟨(j : Int), (T j : Int)⟩ := by
  refine ⟨⟨h.1.drop k, ?_, fun x hx => ?_, fun j hj => ?_⟩, fun q hq hqk => ?_, fun j hj hjn => ?_⟩
  · rw [List.map_drop]
    exact List.Sublist.nodup (List.drop_sublist _ _) h.2.1
  · obtain ⟨j, h3, h4⟩ := h.2.2.1 x (List.mem_of_mem_drop hx)
    refine ⟨j, ⟨h3, ?_⟩, h4⟩
    obtain ⟨p, hp, rfl⟩ := List.getElem_of_mem hx
    rw [List.length_drop] at hp
    rw [List.getElem_drop] at h4
    have h5 := h2 (by omega)
    have h6 := h.1.le (i := k) (j := k + p) (by omega) (by omega) (by omega)
    rw [h4] at h6
    simp only [] at h6
    omega
  · obtain ⟨p, hp, e⟩ := List.getElem_of_mem (h.2.2.2 j hj.1)
    by_cases hpk : p < k
    · have h3 := h1 p hp hpk
      rw [e] at h3
      simp only [] at h3
      omega
    · rw [← e]
      refine List.mem_iff_getElem.2 ⟨p - k, by rw [List.length_drop]; omega, ?_⟩
      rw [List.getElem_drop]
      congr 1
      omega
  · obtain ⟨j, h3, h4⟩ := h.2.2.1 l[q] (List.getElem_mem hq)
    refine ⟨j, h3, ?_, h4⟩
    have h5 := h1 q hq hqk
    rw [h4] at h5
    exact h5
  · obtain ⟨p, hp, e⟩ := List.getElem_of_mem (h.2.2.2 j hj)
    by_cases hpk : p < k
    · exact ⟨p, hpk, by rw [List.getElem?_eq_getElem hp, e]⟩
    · exfalso
      have h5 := h2 (by omega)
      have h6 := h.1.le (i := k) (j := p) (by omega) (by omega) (by omega)
      rw [e] at h6
      simp only [] at h6
      omega
theorem nodup_at {l : List Tm} (h : (l.map Tm.id).Nodup) {p q : Nat} (hp : p < l.length) (hq : q < l.length) (e : l[p].id = l[q].id) : p = q := by
  have h2 := List.pairwise_iff_getElem.1 h
  rcases Nat.lt_trichotomy p q with hpq | hpq | hpq
  · have := h2 p q (by simpa using hp) (by simpa using hq) hpq
    rw [List.getElem_map, List.getElem_map] at this
    exact absurd e this
  · exact hpq
  · have := h2 q p (by simpa using hq) (by simpa using hp) hpq
    rw [List.getElem_map, List.getElem_map] at this
    exact absurd e.symm this
/-- the marks that stand are those of S -/
def Seen (n : Nat) (S : Nat → Prop) (ms : List Bool) : Prop := ms.length = n ∧ ∀ j, j < n → ∃ b, ms[j]? = some b ∧ (b = true ↔ S j)
theorem Seen.zero (n : Nat) {S : Nat → Prop} (hS : ∀ j, ¬ S j) : Seen n S (List.replicate n false) := ⟨by simp, fun j hj => ⟨false, by rw [List.getElem?_replicate, if_pos hj], by simp [hS j]⟩⟩
theorem Seen.congr {n : Nat} {S Q : Nat → Prop} {ms : List Bool} (h : Seen n S ms) (hpq : ∀ j, j < n → (S j ↔ Q j)) : Seen n Q ms :=
  ⟨h.1, fun j hj => by obtain ⟨b, h1, h2⟩ := h.2 j hj; exact ⟨b, h1, h2.trans (hpq j hj)⟩⟩
theorem Seen.put {n : Nat} {S : Nat → Prop} {ms : List Bool} (h : Seen n S ms) {i : Nat} (hi : i < n) : Seen n (fun j => S j ∨ j = i) (ms.set i true) := by
  refine ⟨by rw [List.length_set]; exact h.1, fun j hj => ?_⟩
  obtain ⟨b, h1, h2⟩ := h.2 j hj
  by_cases e : i = j
  · subst e
    exact ⟨true, by rw [List.getElem?_set_self (by rw [h.1]; exact hj)], by simp⟩
  · exact ⟨b, by rw [List.getElem?_set_ne e, h1], by rw [h2]; constructor <;> intro h3; exact .inl h3; rcases h3 with h3 | h3; exact h3; exact absurd h3.symm e⟩
theorem Seen.no {n : Nat} {S : Nat → Prop} {ms : List Bool} (h : Seen n S ms) {i : Nat} (hi : i < n) (hS : ¬ S i) : ms[i]? = some false := by
  obtain ⟨b, h1, h2⟩ := h.2 i hi
  cases b
  · exact h1
  · exact absurd (h2.1 rfl) hS
/-- while the timers that went off are told, those ahead of q are marked -/
def Sq (T : Nat → Nat) (i was : Nat) (l : List Tm) (q : Nat) (j : Nat) : Prop := (0 < i ∧ T j ≤ was) ∨ ∃ p, p < q ∧ l[p]? = some ⟨(j : Int), (T j : Int)⟩
theorem Sq.fresh {T : Nat → Nat} {i was q j n : Nat} {l : List Tm} (h : Wh T (fun j => j < n ∧ (0 < i → was < T j)) l) (hq : q < l.length) (e : l[q] = ⟨(j : Int), (T j : Int)⟩) (hj : 0 < i → was < T j) : ¬ Sq T i was l q j := by
  rintro (⟨h1, h2⟩ | ⟨p, h1, h2⟩)
  · have := hj h1; omega
  · rw [List.getElem?_eq_getElem (by omega)] at h2
    have h3 := Option.some.inj h2
    have := nodup_at h.2.1 (p := p) (q := q) (by omega) hq (by rw [h3, e])
    omega
theorem Sq.next {T : Nat → Nat} {i was q j : Nat} {l : List Tm} (hq : q < l.length) (e : l[q] = ⟨(j : Int), (T j : Int)⟩) (a : Nat) : (Sq T i was l q a ∨ a = j) ↔ Sq T i was l (q + 1) a := by
  constructor
  · rintro ((h | ⟨p, h1, h2⟩) | rfl)
    · exact .inl h
    · exact .inr ⟨p, by omega, h2⟩
    · exact .inr ⟨q, by omega, by rw [List.getElem?_eq_getElem hq, e]⟩
  · rintro (h | ⟨p, h1, h2⟩)
    · exact .inl (.inl h)
    · by_cases hp : p = q
      · subst hp
        rw [List.getElem?_eq_getElem hq, e] at h2
        have h3 := congrArg Tm.id (Option.some.inj h2)
        simp only [] at h3
        exact .inr (by omega)
      · exact .inl (.inr ⟨p, by omega, h2⟩)
theorem Sq.first {T : Nat → Nat} {i was : Nat} {l : List Tm} (a : Nat) : (0 < i ∧ T a ≤ was) ↔ Sq T i was l 0 a := by
  constructor
  · exact fun h => .inl h
  · rintro (h | ⟨p, h1, h2⟩)
    · exact h
    · omega
theorem Sq.last {T : Nat → Nat} {i was now k n : Nat} {l : List Tm} (hwn : was ≤ now) (h1 : ∀ q (hq : q < l.length), q < k → ∃ j : Nat, (j < n ∧ (0 < i → was < T j)) ∧ (T j : Int) ≤ (now : Int) ∧ l[q] = ⟨(j : Int), (T j : Int)⟩) (hk : k ≤ l.length)
    (h2 : ∀ j, (j < n ∧ (0 < i → was < T j)) → (T j : Int) ≤ (now : Int) → ∃ q, q < k ∧ l[q]? = some ⟨(j : Int), (T j : Int)⟩) (a : Nat) (ha : a < n) : Sq T i was l k a ↔ (0 < i + 1 ∧ T a ≤ now) := by
  constructor
  · rintro (⟨h3, h4⟩ | ⟨p, h3, h4⟩)
    · omega
    · obtain ⟨j, h5, h6, h7⟩ := h1 p (by omega) h3
      rw [List.getElem?_eq_getElem (by omega), h7] at h4
      have h8 := congrArg Tm.t (Option.some.inj h4)
      simp only [] at h8
      omega
  · rintro ⟨_, h3⟩
    by_cases h4 : 0 < i ∧ T a ≤ was
    · exact .inl h4
    · exact .inr (h2 a ⟨ha, by omega⟩ (by omega))
end Go.Proofs.Ytnfhmflcaolbbaa
