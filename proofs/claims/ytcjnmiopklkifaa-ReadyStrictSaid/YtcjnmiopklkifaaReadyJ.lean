/- What is told of kinds: in order; of one kind alone a beginning. -/
import Derived.Test.YtcjnmiopklkifaaReadyI
namespace Go.Proofs.Ytcjnmiopklkifaa
open Go.RowKit
set_option linter.unusedVariables false
set_option linter.unusedSimpArgs false

theorem kind_key {od lv : Int} {es : List En} (h : Kinds od lv es) {i j : Nat} (hi : i < es.length) (hj : j < es.length) : key es[i] = key es[j] ↔ i = j := by
  obtain ⟨o, v, e1, _⟩ := h i hi
  obtain ⟨o', v', e2, _⟩ := h j hj
  rw [e1, e2]
  unfold key
  simp
  omega
/-- the first n, told -/
def tp (es : List En) : Nat → List To
  | 0 => []
  | n + 1 => match es[n]? with
    | some e => tp es n ++ [⟨(n : Int) + 1, e⟩]
    | none => tp es n
theorem tp_next {es : List En} {n : Nat} (h : n < es.length) : tp es (n + 1) = tp es n ++ [⟨(n : Int) + 1, es[n]⟩] := by rw [tp, List.getElem?_eq_getElem h]
theorem tp_len {es : List En} : ∀ {n : Nat}, n ≤ es.length → (tp es n).length = n
  | 0, _ => rfl
  | n + 1, h => by rw [tp_next (by omega), List.length_append, tp_len (by omega)]; rfl
theorem tp_at {es : List En} : ∀ {n : Nat} (h : n ≤ es.length) {k : Nat} (hk : k < n), (tp es n)[k]'(by rw [tp_len h]; exact hk) = ⟨(k : Int) + 1, es[k]'(by omega)⟩
  | 0, _, _, hk => absurd hk (by omega)
  | n + 1, h, k, hk => by
    have e := tp_next (show n < es.length by omega)
    have hl := tp_len (show n ≤ es.length by omega)
    by_cases hkn : k < n
    · have ih := tp_at (show n ≤ es.length by omega) hkn
      rw [List.getElem_of_eq e, List.getElem_append_left (by rw [hl]; exact hkn)]
      exact ih
    · have : k = n := by omega
      subst this
      rw [List.getElem_of_eq e, List.getElem_append_right (by omega)]
      simp [hl]
theorem tp_has {od lv : Int} {es : List En} (hk : Kinds od lv es) {n : Nat} (hn : n ≤ es.length) {k : Nat} (h : k < es.length) : hasB (tp es n) es[k] = decide (k < n) := by
  induction n with
  | zero => simp [tp, hasB]
  | succ n ih =>
    rw [tp_next (by omega), hasB_app, ih (by omega)]
    have h1 : hasB [⟨(n : Int) + 1, es[n]⟩] es[k] = decide (n = k) := by
      unfold hasB
      simp only [List.any_cons, List.any_nil, Bool.or_false]
      rw [Bool.eq_iff_iff, same_key, kind_key hk (by omega) h, decide_eq_true_iff]
    rw [h1, Bool.eq_iff_iff]
    simp
    omega
def up : Sn := ⟨true, true, true, true⟩
/-- of one kind, told as far as m goes: 'down' is the flag that stops it -/
theorem chain {od lv : Int} {es : List En} (hk : Kinds od lv es) {f m : Nat} (hf : f ≤ es.length) (hm : m ≤ es.length) {c now : Int} (down : Sn → Bool)
    (h1 : ∀ i (h : i < es.length), mayB up es[i] i c now = decide (i < m) ∨ i < f) (h2 : ∀ (s : Sn) i (h : i < es.length), down s = true → mayB s es[i] i c now = false)
    (h3 : ∀ (s : Sn) i (h : i < es.length), down (s.drop es[i].od) = true) :
    ∀ k, k ≤ es.length → (k ≤ max f m → tp es f ++ (runR (tp es f) es c now k).out = tp es (max f (min k (max f m))) ∧ (runR (tp es f) es c now k).s = up) ∧
      (max f m < k → tp es f ++ (runR (tp es f) es c now k).out = tp es (max f m) ∧ down (runR (tp es f) es c now k).s = true)
  | 0, _ => ⟨fun _ => ⟨by simp [runR], rfl⟩, fun h => absurd h (by omega)⟩
  | k + 1, hkl => by
    obtain ⟨i1, i2⟩ := chain hk hf hm down h1 h2 h3 k (by omega)
    rw [runR_next (by omega : k < es.length)]
    by_cases hlt : k < max f m
    · obtain ⟨a1, a2⟩ := i1 (by omega)
      refine ⟨fun _ => ?_, fun h => absurd h (by omega)⟩
      have hin : hasB (tp es f ++ (runR (tp es f) es c now k).out) es[k] = decide (k < f) := by
        rw [a1, tp_has hk (by omega) (by omega)]
        rw [decide_eq_decide]; omega
      by_cases hkf : k < f
      · rw [step_has (by rw [hin]; simpa using hkf)]
        refine ⟨?_, a2⟩
        rw [a1]
        congr 1; omega
      · have hmay : mayB (runR (tp es f) es c now k).s es[k] k c now = true := by
          rw [a2]
          rcases h1 k (by omega) with h | h
          · rw [h]; simp; omega
          · omega
        rw [step_tell (by rw [hin]; simpa using hkf) hmay]
        refine ⟨?_, a2⟩
        simp only []
        rw [← List.append_assoc, a1, show max f (min k (max f m)) = k by omega, show max f (min (k + 1) (max f m)) = k + 1 by omega, tp_next (by omega)]
    · refine ⟨fun h => absurd h (by omega), fun _ => ?_⟩
      by_cases he : k = max f m
      · obtain ⟨a1, a2⟩ := i1 (by omega)
        have hin : hasB (tp es f ++ (runR (tp es f) es c now k).out) es[k] = false := by
          rw [a1, tp_has hk (by omega) (by omega)]
          simp; omega
        have hmay : mayB (runR (tp es f) es c now k).s es[k] k c now = false := by
          rw [a2]
          rcases h1 k (by omega) with h | h
          · rw [h]; simp; omega
          · omega
        rw [step_not hin hmay]
        refine ⟨?_, h3 _ _ _⟩
        simp only []
        rw [a1]; congr 1; omega
      · obtain ⟨a1, a2⟩ := i2 (by omega)
        have hin : hasB (tp es f ++ (runR (tp es f) es c now k).out) es[k] = false := by
          rw [a1, tp_has hk (by omega) (by omega)]
          simp; omega
        rw [step_not hin (h2 _ _ _ a2)]
        exact ⟨a1, h3 _ _ _⟩
theorem chain_go {od lv : Int} {es : List En} (hk : Kinds od lv es) {f m : Nat} (hf : f ≤ es.length) (hm : m ≤ es.length) {c now : Int} (down : Sn → Bool)
    (h1 : ∀ i (h : i < es.length), mayB up es[i] i c now = decide (i < m) ∨ i < f) (h2 : ∀ (s : Sn) i (h : i < es.length), down s = true → mayB s es[i] i c now = false)
    (h3 : ∀ (s : Sn) i (h : i < es.length), down (s.drop es[i].od) = true) : tp es f ++ goR (tp es f) es c now = tp es (max f m) := by
  obtain ⟨a, b⟩ := chain hk hf hm down h1 h2 h3 es.length (Nat.le_refl _)
  by_cases h : es.length ≤ max f m
  · have := (a h).1
    unfold goR
    rw [this]; congr 1; omega
  · exact (b (by omega)).1
/-- Strict ones, Total -/
theorem strict_go {es : List En} (hk : Kinds 1 2 es) {f : Nat} (hf : f ≤ es.length) (c : Int) : tp es f ++ goR (tp es f) es c 0 = tp es (max f (min es.length c.toNat)) := by
  have hod : ∀ i (h : i < es.length), es[i].od = 1 ∧ es[i].lv = 2 := fun i h => by
    obtain ⟨o, v, e, _, _, ho, hv⟩ := hk i h
    rw [e]; exact ⟨ho (by omega), hv (by omega)⟩
  refine chain_go hk hf (by omega) (fun s => !s.o1) (fun i h => .inl ?_) (fun s i h hs => ?_) (fun s i h => ?_)
  · obtain ⟨ho, hv⟩ := hod i h
    unfold mayB lvB odB up
    rw [ho, hv, Bool.eq_iff_iff]
    simp
    omega
  · obtain ⟨ho, hv⟩ := hod i h
    unfold mayB odB
    rw [ho]
    have : s.o1 = false := by simpa using hs
    rw [this]
    simp
  · obtain ⟨ho, hv⟩ := hod i h
    simp [Sn.drop, ho]
/-- Timed ones, Strong -/
theorem timed_go {es : List En} (hk : Kinds 2 1 es) {f : Nat} (hf : f ≤ es.length) (now : Int) (h0 : 0 ≤ now) : tp es f ++ goR (tp es f) es es.length now = tp es (max f (min es.length (now - 2).toNat)) := by
  have hod : ∀ i (h : i < es.length), es[i].od = 2 ∧ es[i].lv = 1 ∧ es[i].st = i := fun i h => by
    obtain ⟨o, v, e, _, _, ho, hv⟩ := hk i h
    rw [e]; exact ⟨ho (by omega), hv (by omega), rfl⟩
  refine chain_go hk hf (by omega) (fun s => !s.o2) (fun i h => .inl ?_) (fun s i h hs => ?_) (fun s i h => ?_)
  · obtain ⟨ho, hv, hst⟩ := hod i h
    unfold mayB lvB odB up
    rw [ho, hv, hst, Bool.eq_iff_iff]
    simp
    omega
  · obtain ⟨ho, hv, hst⟩ := hod i h
    unfold mayB odB
    rw [ho]
    have : s.o2 = false := by simpa using hs
    rw [this]
    simp
  · obtain ⟨ho, hv, hst⟩ := hod i h
    simp [Sn.drop, ho]

/-! ### in order -/
def lastAt (T : List To) (o : Int) : Int := T.foldl (fun a t => if t.e.od = o then t.at_ else a) 0
theorem lastAt_snoc (T : List To) (t : To) (o : Int) : lastAt (T ++ [t]) o = if t.e.od = o then t.at_ else lastAt T o := by
  unfold lastAt; rw [List.foldl_append]; rfl
theorem lastAt_lt {o b : Int} (hb : 0 < b) : ∀ {T : List To}, (∀ t ∈ T, t.e.od = o → t.at_ < b) → lastAt T o < b := by
  intro T
  have : ∀ (T : List To) (a : Int), a < b → (∀ t ∈ T, t.e.od = o → t.at_ < b) → T.foldl (fun a t => if t.e.od = o then t.at_ else a) a < b := by
    intro T
    induction T with
    | nil => intro a h _; exact h
    | cons t T ih =>
      intro a h ht
      rw [List.foldl_cons]
      refine ih _ ?_ fun x hx => ht x (List.mem_cons_of_mem _ hx)
      split
      · rename_i he; exact ht t (List.mem_cons_self ..) he
      · exact h
  exact this T 0 hb
def Ord (es : List En) (T : List To) : Prop :=
  (∀ t ∈ T, ∃ i, ∃ h : i < es.length, t = ⟨(i : Int) + 1, es[i]⟩) ∧
  (∀ i (h : i < es.length), (⟨(i : Int) + 1, es[i]⟩ : To) ∈ T → ∀ j (hj : j < es.length), j < i → (es[i].od = 1 ∧ es[j].od = 1) ∨ (es[i].od = 2 ∧ es[j].od = 2) → hasB T es[j] = true) ∧
  (∀ n (h : n < T.length), T[n].e.od ≠ 0 → lastAt (T.take n) T[n].e.od < T[n].at_)
theorem Ord.nil (es : List En) : Ord es [] := ⟨fun t h => (by cases h), fun i h h' => (by cases h'), fun n h => absurd h (by simp)⟩
theorem Ord.tell {od lv : Int} {es : List En} (hk : Kinds od lv es) {T : List To} (h : Ord es T) {k : Nat} (hkl : k < es.length) (hn : hasB T es[k] = false)
    (hp : ∀ j (hj : j < es.length), j < k → (es[k].od = 1 ∧ es[j].od = 1) ∨ (es[k].od = 2 ∧ es[j].od = 2) → hasB T es[j] = true) : Ord es (T ++ [⟨(k : Int) + 1, es[k]⟩]) := by
  obtain ⟨h1, h2, h3⟩ := h
  refine ⟨fun t ht => ?_, fun i hi hit j hj hji hc => ?_, fun n hn2 ho => ?_⟩
  · rcases List.mem_append.1 ht with h | h
    · exact h1 t h
    · exact ⟨k, hkl, by simpa using h⟩
  · rcases List.mem_append.1 hit with h | h
    · exact hasB_mono (h2 i hi h j hj hji hc) _
    · simp at h
      obtain ⟨e1, e2⟩ := h
      have : i = k := by omega
      subst this
      exact hasB_mono (hp j hj hji hc) _
  · rw [List.length_append] at hn2
    simp at hn2
    by_cases hl : n < T.length
    · rw [List.getElem_append_left hl] at ho ⊢
      rw [List.take_append_of_le_length (by omega)]
      exact h3 n hl ho
    · have : n = T.length := by omega
      subst this
      rw [List.take_append_of_le_length (Nat.le_refl _), List.take_length]
      simp at ho ⊢
      refine lastAt_lt (by omega) fun t ht he => ?_
      obtain ⟨i, hi, rfl⟩ := h1 t ht
      simp at he ⊢
      obtain ⟨o, v, e1, h4, h5, _⟩ := hk k hkl
      rcases Nat.lt_trichotomy i k with hlt | heq | hgt
      · omega
      · subst heq
        have := (hasB_iff T es[i]).2 (List.mem_map.2 ⟨_, ht, rfl⟩)
        rw [hn] at this; cases this
      · have hodk : es[k].od = 1 ∨ es[k].od = 2 := by
          have : es[k].od = o := by rw [e1]
          omega
        have := h2 i hi ht k hkl hgt (by rw [he]; rcases hodk with h | h <;> simp [h])
        rw [hn] at this; cases this
theorem Ord.run {od lv : Int} {es : List En} (hk : Kinds od lv es) {T : List To} {c now : Int} (h : Ord es T) : ∀ k, k ≤ es.length → Ord es (T ++ (runR T es c now k).out)
  | 0, _ => by simpa [runR] using h
  | k + 1, hkl => by
    have ih := Ord.run hk (c := c) (now := now) h k (by omega)
    have hf := run_flags (T := T) (l := es) (c := c) (now := now) k (by omega)
    rw [runR_next (by omega : k < es.length)]
    obtain ⟨U, e, hU⟩ := step_out (T := T) (c := c) (now := now) k es[k] (runR T es c now k)
    rw [e, ← List.append_assoc]
    rcases hU with rfl | ⟨rfl, h1, hm⟩
    · simpa using ih
    · obtain ⟨p1, p2, p3, p4⟩ := may_parts hm
      refine ih.tell hk (by omega) h1 fun j hj hji hc => ?_
      rcases hc with ⟨ha, hb⟩ | ⟨ha, hb⟩
      · exact hf.2.1 (p3 ha) j hj hji hb
      · exact hf.2.2 (p4 ha).1 j hj hji hb
theorem Ord.go {od lv : Int} {es : List En} (hk : Kinds od lv es) {T : List To} (h : Ord es T) (c now : Int) : Ord es (T ++ goR T es c now) := Ord.run hk h es.length (Nat.le_refl _)
end Go.Proofs.Ytcjnmiopklkifaa
