/- The plain law of telling: what was told, in which order, once. -/
import Derived.Test.YtcjnmiopklkifaaReadyC
namespace Go.Proofs.Ytcjnmiopklkifaa
open Go.RowKit
set_option linter.unusedVariables false
set_option linter.unusedSimpArgs false

/-! ### keys -/
def key (e : En) : Int × Int × Int := (e.fr, e.bo, e.se)
theorem same_key (a b : En) : same a b = true ↔ key a = key b := by
  unfold same key
  simp [Bool.and_eq_true, Prod.ext_iff, and_assoc]
theorem same_key' (a b : En) : same a b = false ↔ key a ≠ key b := by
  rw [← Bool.not_eq_true, same_key]
def kT (t : To) : Int × Int × Int := key t.e
theorem hasB_iff (T : List To) (e : En) : hasB T e = true ↔ key e ∈ T.map kT := by
  unfold hasB
  rw [List.any_eq_true, List.mem_map]
  constructor
  · rintro ⟨t, h1, h2⟩
    exact ⟨t, h1, (same_key _ _).1 h2⟩
  · rintro ⟨t, h1, h2⟩
    exact ⟨t, h1, (same_key _ _).2 h2⟩
theorem hasB_no (T : List To) (e : En) : hasB T e = false ↔ key e ∉ T.map kT := by
  rw [← hasB_iff, Bool.not_eq_true]
theorem hasB_mono {T : List To} {e : En} (h : hasB T e = true) (U : List To) : hasB (T ++ U) e = true := by rw [hasB_app, h, Bool.true_or]
theorem nodup_le {α : Type} [BEq α] [LawfulBEq α] : ∀ {a b : List α}, a.Nodup → (∀ x ∈ a, x ∈ b) → a.length ≤ b.length
  | [], b, _, _ => Nat.zero_le _
  | x :: a, b, hn, hs => by
    rw [List.nodup_cons] at hn
    have hx : x ∈ b := hs x (List.mem_cons_self ..)
    have h1 := nodup_le (a := a) (b := b.erase x) hn.2 fun y hy => (List.mem_erase_of_ne (by rintro rfl; exact hn.1 hy)).2 (hs y (List.mem_cons_of_mem _ hy))
    rw [List.length_erase_of_mem hx] at h1
    have h2 : 0 < b.length := List.length_pos_of_mem hx
    simp only [List.length_cons]
    omega
/-- nothing is told twice -/
def Uniq (T : List To) : Prop := (T.map kT).Nodup
theorem Uniq.nil : Uniq [] := List.nodup_nil
theorem Uniq.snoc {T : List To} {t : To} (h : Uniq T) (hn : hasB T t.e = false) : Uniq (T ++ [t]) := by
  unfold Uniq at *
  rw [List.map_append, List.nodup_append]
  refine ⟨h, by simp, fun a ha b hb => ?_⟩
  simp at hb
  subst hb
  rintro rfl
  exact (hasB_no _ _).1 hn ha
theorem Uniq.at_ {T : List To} (h : Uniq T) {i j : Nat} (hj : j < T.length) (hij : i < j) : same T[j].e T[i].e = false := by
  rw [same_key']
  intro e
  unfold Uniq at h
  rw [List.nodup_iff_pairwise_ne] at h
  have := List.pairwise_iff_getElem.1 h i j (by simpa using (by omega : i < T.length)) (by simpa using hj) hij
  simp [kT] at this
  exact this e.symm

/-! ### what holds all along -/
section
variable {T : List To} {l : List En} {c now : Int}
theorem runR_end {k : Nat} (hk : l.length ≤ k) : runR T l c now k = runR T l c now l.length := by
  induction k with
  | zero =>
    have h : l.length = 0 := by omega
    rw [h]
  | succ k ih =>
    by_cases h : l.length = k + 1
    · rw [h]
    · rw [runR, List.getElem?_eq_none (by omega)]
      exact ih (by omega)
theorem step_out (i : Nat) (e : En) (r : R) : ∃ U, (stepR T c now i e r).out = r.out ++ U ∧ (U = [] ∨ (U = [⟨(i : Int) + 1, e⟩] ∧ hasB (T ++ r.out) e = false ∧ mayB r.s e i c now = true)) := by
  cases h : hasB (T ++ r.out) e
  · cases hm : mayB r.s e i c now
    · rw [step_not h hm]; exact ⟨[], by simp, .inl rfl⟩
    · rw [step_tell h hm]; exact ⟨_, rfl, .inr ⟨rfl, rfl, rfl⟩⟩
  · rw [step_has h]; exact ⟨[], by simp, .inl rfl⟩
theorem run_uniq (h : Uniq T) : ∀ k, k ≤ l.length → Uniq (T ++ (runR T l c now k).out)
  | 0, _ => by simpa [runR] using h
  | k + 1, hk => by
    have ih := run_uniq h k (by omega)
    rw [runR_next (by omega : k < l.length)]
    obtain ⟨U, e, hU⟩ := step_out (T := T) (c := c) (now := now) k l[k] (runR T l c now k)
    rw [e, ← List.append_assoc]
    rcases hU with rfl | ⟨rfl, h1, _⟩
    · simpa using ih
    · exact ih.snoc h1
theorem run_mem : ∀ k, k ≤ l.length → ∀ t ∈ (runR T l c now k).out, ∃ i, ∃ h : i < l.length, i < k ∧ t = ⟨(i : Int) + 1, l[i]⟩
  | 0, _ => by simp [runR]
  | k + 1, hk => by
    intro t ht
    rw [runR_next (by omega : k < l.length)] at ht
    obtain ⟨U, e, hU⟩ := step_out (T := T) (c := c) (now := now) k l[k] (runR T l c now k)
    rw [e] at ht
    rcases List.mem_append.1 ht with h | h
    · obtain ⟨i, hi, h2, h3⟩ := run_mem k (by omega) t h
      exact ⟨i, hi, by omega, h3⟩
    · rcases hU with rfl | ⟨rfl, _, _⟩
      · cases h
      · exact ⟨k, by omega, by omega, by simpa using h⟩
theorem run_mono (k m : Nat) (h : k ≤ m) : ∃ U, (runR T l c now m).out = (runR T l c now k).out ++ U := by
  induction m with
  | zero => exact ⟨[], by have : k = 0 := by omega
                          subst this; simp⟩
  | succ m ih =>
    by_cases e : k = m + 1
    · subst e; exact ⟨[], by simp⟩
    · obtain ⟨U, hU⟩ := ih (by omega)
      rw [runR]
      split
      · rename_i x _
        obtain ⟨V, hV, _⟩ := step_out (T := T) (c := c) (now := now) m x (runR T l c now m)
        exact ⟨U ++ V, by rw [hV, hU, List.append_assoc]⟩
      · exact ⟨U, hU⟩
/-- what the flags say -/
def Flags (T : List To) (l : List En) (k : Nat) (r : R) : Prop :=
  (r.s.al = true → ∀ j (h : j < l.length), j < k → hasB (T ++ r.out) l[j] = true) ∧ (r.s.o1 = true → ∀ j (h : j < l.length), j < k → l[j].od = 1 → hasB (T ++ r.out) l[j] = true) ∧ (r.s.o2 = true → ∀ j (h : j < l.length), j < k → l[j].od = 2 → hasB (T ++ r.out) l[j] = true)
theorem run_flags : ∀ k, k ≤ l.length → Flags T l k (runR T l c now k)
  | 0, _ => ⟨fun _ j _ h => absurd h (by omega), fun _ j _ h => absurd h (by omega), fun _ j _ h => absurd h (by omega)⟩
  | k + 1, hk => by
    obtain ⟨f1, f2, f3⟩ := run_flags k (by omega)
    rw [runR_next (by omega : k < l.length)]
    generalize runR T l c now k = r at *
    cases h : hasB (T ++ r.out) l[k]
    · cases hm : mayB r.s l[k] k c now
      · rw [step_not h hm]
        refine ⟨fun hs => ?_, fun hs j hj hjk ho => ?_, fun hs j hj hjk ho => ?_⟩
        · simp [Sn.drop] at hs
        · simp [Sn.drop] at hs
          by_cases e : j = k
          · subst e; exact absurd ho hs.2
          · exact f2 hs.1 j hj (by omega) ho
        · simp [Sn.drop] at hs
          by_cases e : j = k
          · subst e; exact absurd ho hs.2
          · exact f3 hs.1 j hj (by omega) ho
      · rw [step_tell h hm]
        have hnew : hasB (T ++ (r.out ++ [⟨(k : Int) + 1, l[k]⟩])) l[k] = true := by rw [← List.append_assoc]; exact hasB_new _ _ _
        have hold : ∀ j (hj : j < l.length), hasB (T ++ r.out) l[j] = true → hasB (T ++ (r.out ++ [⟨(k : Int) + 1, l[k]⟩])) l[j] = true := fun j hj h => by rw [← List.append_assoc]; exact hasB_mono h _
        refine ⟨fun hs j hj hjk => ?_, fun hs j hj hjk ho => ?_, fun hs j hj hjk ho => ?_⟩
        all_goals
          by_cases e : j = k
          · subst e; exact hnew
          · apply hold j hj
            first
              | exact f1 hs j hj (by omega)
              | exact f2 hs j hj (by omega) ho
              | exact f3 hs j hj (by omega) ho
    · rw [step_has h]
      refine ⟨fun hs j hj hjk => ?_, fun hs j hj hjk ho => ?_, fun hs j hj hjk ho => ?_⟩
      all_goals
        by_cases e : j = k
        · subst e; exact h
        · first
            | exact f1 hs j hj (by omega)
            | exact f2 hs j hj (by omega) ho
            | exact f3 hs j hj (by omega) ho
theorem may_parts {s : Sn} {e : En} {i : Nat} (h : mayB s e i c now = true) :
    (e.lv ≠ 0 → (i : Int) < c) ∧ (e.lv = 2 → s.al = true) ∧ (e.od = 1 → s.o1 = true) ∧ (e.od = 2 → s.o2 = true ∧ 3 ≤ now ∧ e.st ≤ now - 3) := by
  unfold mayB lvB odB at h
  simp only [Bool.and_eq_true, Bool.or_eq_true, beq_iff_eq, decide_eq_true_eq] at h
  obtain ⟨h1, h2⟩ := h
  refine ⟨fun h3 => ?_, fun h3 => ?_, fun h3 => ?_, fun h3 => ?_⟩
  · rcases h1 with h | ⟨h, _⟩
    · exact absurd h h3
    · exact h
  · rcases h1 with h | ⟨_, h | ⟨_, h⟩⟩
    · omega
    · omega
    · exact h
  · rcases h2 with (h | ⟨_, h⟩) | ⟨⟨⟨h, _⟩, _⟩, _⟩
    · omega
    · exact h
    · omega
  · rcases h2 with (h | ⟨h, _⟩) | ⟨⟨⟨_, h4⟩, h5⟩, h6⟩
    · omega
    · omega
    · exact ⟨h4, h5, h6⟩
/-- what is told was to be told -/
theorem run_told : ∀ k, k ≤ l.length → ∀ t ∈ (runR T l c now k).out, ∃ i, ∃ h : i < l.length, i < k ∧ t = ⟨(i : Int) + 1, l[i]⟩ ∧ (l[i].lv ≠ 0 → (i : Int) < c) ∧
    ∀ j (hj : j < l.length), j < i → (l[i].lv = 2 ∨ (l[i].od = 1 ∧ l[j].od = 1) ∨ (l[i].od = 2 ∧ l[j].od = 2)) → hasB (T ++ (runR T l c now k).out) l[j] = true
  | 0, _ => by simp [runR]
  | k + 1, hk => by
    intro t ht
    have hf := run_flags (T := T) (l := l) (c := c) (now := now) k (by omega)
    rw [runR_next (by omega : k < l.length)] at ht ⊢
    obtain ⟨U, e, hU⟩ := step_out (T := T) (c := c) (now := now) k l[k] (runR T l c now k)
    rw [e] at ht ⊢
    rw [← List.append_assoc]
    rcases List.mem_append.1 ht with h | h
    · obtain ⟨i, hi, h2, h3, h4, h5⟩ := run_told k (by omega) t h
      exact ⟨i, hi, by omega, h3, h4, fun j hj hji hc => hasB_mono (h5 j hj hji hc) _⟩
    · rcases hU with rfl | ⟨rfl, _, hm⟩
      · cases h
      · obtain ⟨p1, p2, p3, p4⟩ := may_parts hm
        refine ⟨k, by omega, by omega, by simpa using h, p1, fun j hj hji hc => hasB_mono ?_ _⟩
        rcases hc with hc | ⟨hc, ho⟩ | ⟨hc, ho⟩
        · exact hf.1 (p2 hc) j hj hji
        · exact hf.2.1 (p3 hc) j hj hji ho
        · exact hf.2.2 (p4 hc).1 j hj hji ho
end
theorem goR_told {T : List To} {l : List En} {c now : Int} : ∀ t ∈ goR T l c now, ∃ i, ∃ h : i < l.length, t = ⟨(i : Int) + 1, l[i]⟩ ∧ (l[i].lv ≠ 0 → (i : Int) < c) ∧
    ∀ j (hj : j < l.length), j < i → (l[i].lv = 2 ∨ (l[i].od = 1 ∧ l[j].od = 1) ∨ (l[i].od = 2 ∧ l[j].od = 2)) → hasB (T ++ goR T l c now) l[j] = true := by
  intro t ht
  obtain ⟨i, hi, _, h3, h4, h5⟩ := run_told l.length (Nat.le_refl _) t ht
  exact ⟨i, hi, h3, h4, h5⟩
/-! ### all of it, in the end -/
/-- what was told is of the log, each once -/
def Of (l : List En) (T : List To) : Prop := Uniq T ∧ ∀ t ∈ T, t.e ∈ l
theorem Of.nil (l : List En) : Of l [] := ⟨Uniq.nil, fun t h => by cases h⟩
theorem Of.go {l m : List En} {T : List To} (h : Of l T) (hm : ∀ e ∈ m, e ∈ l) (c now : Int) : Of l (T ++ goR T m c now) := by
  refine ⟨run_uniq h.1 m.length (Nat.le_refl _), fun t ht => ?_⟩
  rcases List.mem_append.1 ht with h1 | h1
  · exact h.2 t h1
  · obtain ⟨i, hi, _, rfl⟩ := run_mem m.length (Nat.le_refl _) t h1
    exact hm _ (List.getElem_mem hi)
theorem Of.len {l : List En} {T : List To} (h : Of l T) : T.length ≤ l.length := by
  have := nodup_le (a := T.map kT) (b := l.map key) h.1 fun x hx => by
    obtain ⟨t, ht, rfl⟩ := List.mem_map.1 hx
    exact List.mem_map.2 ⟨t.e, h.2 t ht, rfl⟩
  simpa using this
theorem keys_nodup {l : List En} (h : ∀ i j (hi : i < l.length) (hj : j < l.length), i < j → same l[i] l[j] = false) : (l.map key).Nodup := by
  rw [List.nodup_iff_pairwise_ne, List.pairwise_iff_getElem]
  intro i j hi hj hij
  simp at hi hj
  simp only [List.getElem_map]
  exact (same_key' _ _).1 (h i j hi hj hij)
theorem Of.full {l : List En} {T : List To} (h : Of l T) (hl : (l.map key).Nodup) (hall : ∀ e ∈ l, hasB T e = true) : T.length = l.length := by
  have h1 := h.len
  have h2 := nodup_le (a := l.map key) (b := T.map kT) hl fun x hx => by
    obtain ⟨e, he, rfl⟩ := List.mem_map.1 hx
    exact (hasB_iff _ _).1 (hall e he)
  simp at h2
  omega
/-- all flags up, and all may be told: all is told -/
theorem run_all {T : List To} {l : List En} {c now : Int} (hok : ∀ i (h : i < l.length), (l[i].lv = 0 ∨ ((i : Int) < c ∧ (l[i].lv = 1 ∨ l[i].lv = 2))) ∧ (l[i].od = 0 ∨ l[i].od = 1 ∨ (l[i].od = 2 ∧ 3 ≤ now ∧ l[i].st ≤ now - 3))) :
    ∀ k, k ≤ l.length → (runR T l c now k).s = ⟨true, true, true, true⟩ ∧ ∀ j (h : j < l.length), j < k → hasB (T ++ (runR T l c now k).out) l[j] = true
  | 0, _ => ⟨rfl, fun j _ h => absurd h (by omega)⟩
  | k + 1, hk => by
    obtain ⟨i1, i2⟩ := run_all (T := T) hok k (by omega)
    rw [runR_next (by omega : k < l.length)]
    generalize runR T l c now k = r at *
    obtain ⟨out, s⟩ := r
    simp only [] at i1 i2
    subst i1
    cases h : hasB (T ++ out) l[k]
    · have hm : mayB ⟨true, true, true, true⟩ l[k] k c now = true := by
        obtain ⟨h1, h2⟩ := hok k (by omega)
        unfold mayB lvB odB
        simp only [Bool.and_eq_true, Bool.or_eq_true, beq_iff_eq, decide_eq_true_eq, and_true]
        refine ⟨h1, ?_⟩
        rcases h2 with h2 | h2 | ⟨h2, h3, h4⟩
        · exact .inl (.inl h2)
        · exact .inl (.inr h2)
        · exact .inr ⟨⟨h2, h3⟩, h4⟩
      rw [step_tell h hm]
      refine ⟨rfl, fun j hj hjk => ?_⟩
      simp only []
      rw [← List.append_assoc]
      by_cases e : j = k
      · subst e; exact hasB_new _ _ _
      · exact hasB_mono (i2 j hj (by omega)) _
    · rw [step_has h]
      refine ⟨rfl, fun j hj hjk => ?_⟩
      by_cases e : j = k
      · subst e; exact h
      · exact i2 j hj (by omega)
/-- all was told already: nothing is told -/
theorem run_none {T : List To} {l : List En} {c now : Int} (h : ∀ e ∈ l, hasB T e = true) : ∀ k, k ≤ l.length → (runR T l c now k).out = []
  | 0, _ => rfl
  | k + 1, hk => by
    have ih := run_none (c := c) (now := now) h k (by omega)
    rw [runR_next (by omega : k < l.length), step_has]
    · exact ih
    · rw [ih, List.append_nil]; exact h _ (List.getElem_mem _)
theorem log_okE {l : List En} (h : LogOk l) : ∀ e ∈ l, OkE e := fun e he => okB_ok (h.1 e he)
theorem cut_size {e : En} (h : e.da.size ≤ maxLen) : e.cut.da.size ≤ maxLen := by
  unfold En.cut cutB
  simp only []
  split
  · rw [ByteArray.size_extract]; omega
  · exact h
theorem ent_size {es : List En} {n : Nat} (h : ∀ e ∈ es, e.da.size ≤ maxLen) : ∀ e ∈ (es.take n).map En.cut, e.da.size ≤ maxLen := by
  intro e he
  obtain ⟨x, hx, rfl⟩ := List.mem_map.1 he
  exact cut_size (h x (List.mem_of_mem_take hx))
/-- Go, and what it leaves alone of what was made since -/
theorem St.go2 {w0 W0 wr : World} {g : Nat} {L : Option Addr} {cl : Nat} {l : List En} {T : List To} (h : St w0 g L cl l T W0) (hm : Mod (fun _ => False) W0 wr) (c now : Int) (hl : l.length ≤ 50) (hT : T.length ≤ 4000) (hok : ∀ e ∈ l, OkE e)
    (hc0 : -9223372036854775808 ≤ c) (hc1 : c ≤ 9223372036854775807) (hn0 : -9223372036854775808 ≤ now) (hn1 : now ≤ 9223372036854775807) :
    Calls Try.prog 17 #[.pointer (some ⟨g, 0, none⟩), .slice L l.length cl, .int .i64 c, .int .i64 now] wr
      fun e w' => ∃ A c', e = .returned (.slice A (goR T l c now).length c') ∧ Own w' 8 A (goR T l c now).length c' (tcells (goR T l c now)) ∧ St w0 g L cl l (T ++ goR T l c now) w' ∧ Mod (fun k => w0.heap.size ≤ k ∧ k < W0.heap.size) wr w' := by
  obtain ⟨F, h1, h2, h3, h4, h5⟩ := h
  have hb : ∀ k, F k → k < W0.heap.size := by obtain ⟨_, _, _, _, _, _, _, h6⟩ := h1; exact h6
  have hg := go_any g F T L l cl c now wr (h1.none_ hm) ((Sl.of_own h2).none_ hm) h3 (by omega) h2.2.1 h2.2.2.1 hT hok hc0 hc1 hn0 hn1
  refine hg.mono ?_
  rintro e w' ⟨A, c', F', rfl, a2, a3, a4, a5, a6⟩
  have s := h5.size
  have s2 := hm.size
  refine ⟨A, c', rfl, a2, ⟨F', a3, (h2.mod hm (by simp)).mod a4 fun k hk => h3 k hk, fun k hk hF => ?_, fun k hk => ?_, (h5.trans hm (by simp)).trans a4 fun k hk => .inl (h4 k hk)⟩, a4.mono fun k _ hk => ⟨h4 k hk, hb k hk⟩⟩
  · rcases a5 k hF with h6 | h6
    · exact h3 k hk h6
    · have := h2.lt hk; omega
  · rcases a5 k hk with h6 | h6
    · exact h4 k h6
    · omega
end Go.Proofs.Ytcjnmiopklkifaa
