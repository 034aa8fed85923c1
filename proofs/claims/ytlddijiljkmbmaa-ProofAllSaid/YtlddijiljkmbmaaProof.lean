/- The walks of the package proof, each as a contract over a plain state. -/
import Derived.Test.YtlddijiljkmbmaaOwn
import Derived.BigRegion
import Derived.ChangeAlike
import Derived.RegionTactic
namespace Go.Proofs.Ytlddijiljkmbmaa
open Go.RowKit
attribute [local go_sem ↓] Go.wp_at_zero Go.wp_at_succ

/-- a process's proof as plain data -/
structure Pf where
  num : Int
  l : List (Int × Int)
  has : Bool
  bn : Int
  bc : Int
  cm : Int
def flat (l : List (Int × Int)) : List Value := l.flatMap fun q => [.int .i64 q.1, .int .i64 q.2]
theorem flat_len (l : List (Int × Int)) : (flat l).length = l.length * 2 := by
  induction l with
  | nil => rfl
  | cons a l ih => simp only [flat, List.flatMap_cons, List.length_append, List.length_cons, List.length_nil] at *; omega
theorem flat_app (l m : List (Int × Int)) : flat (l ++ m) = flat l ++ flat m := by simp [flat]
theorem flat_drop (l : List (Int × Int)) (k : Nat) : (flat l).drop (k * 2) = flat (l.drop k) := by
  induction k generalizing l with
  | zero => rfl
  | succ k ih =>
    cases l with
    | nil => simp [flat]
    | cons a l => rw [show (k + 1) * 2 = k * 2 + 1 + 1 by omega]; exact ih l
theorem flat_num (l : List (Int × Int)) (k : Nat) (h : k < l.length) : (flat l)[k * 2]? = some (.int .i64 l[k].1) := by
  induction k generalizing l with
  | zero => cases l with
    | nil => simp at h
    | cons a l => rfl
  | succ k ih =>
    cases l with
    | nil => simp at h
    | cons a l => rw [show (k + 1) * 2 = k * 2 + 1 + 1 by omega]; exact ih l (by simpa using h)
theorem flat_clock (l : List (Int × Int)) (k : Nat) (h : k < l.length) : (flat l)[k * 2 + 1]? = some (.int .i64 l[k].2) := by
  induction k generalizing l with
  | zero => cases l with
    | nil => simp at h
    | cons a l => rfl
  | succ k ih =>
    cases l with
    | nil => simp at h
    | cons a l => rw [show (k + 1) * 2 + 1 = k * 2 + 1 + 1 + 1 by omega]; exact ih l (by simpa using h)

/-- block g (and the questions' block) hold this proof; F: its blocks -/
def IsPf (w : World) (g : Nat) (F : Nat → Prop) (s : Pf) : Prop :=
  ∃ A c, Cells w g [.int .i64 s.num, .slice A s.l.length c, .bool s.has, .int .i64 s.bn, .int .i64 s.bc, .int .i64 s.cm] ∧ Own w 2 A s.l.length c (flat s.l) ∧ blk A ≠ some g ∧ s.l.length ≤ 64 ∧ F g ∧ ∀ k, blk A = some k → F k
theorem IsPf.mod {w w' : World} {g : Nat} {F G : Nat → Prop} {s : Pf} (h : IsPf w g F s) (hm : Mod G w w') (hF : ∀ k, F k → ¬ G k) : IsPf w' g F s := by
  obtain ⟨A, c, h1, h2, h3, h4, h5, h6⟩ := h
  exact ⟨A, c, h1.mod hm (hF _ h5), h2.mod hm fun k e => hF _ (h6 k e), h3, h4, h5, h6⟩

def Pf.ask (s : Pf) (clock : Int) : Pf := { s with num := s.num + 1, l := (s.l ++ [(s.num + 1, clock)]).drop (s.l.length + 1 - 64) }

theorem info_q : (Try.prog.info? 43).map (fun i => (i.zero, i.size, i.bytes)) = some (some (.agg #[.int .i64 0, .int .i64 0]), 2, 16) := by kernel_rfl

/-- behind Ask's append -/
def AskMid (w : World) (g : Nat) (F : Nat → Prop) (s : Pf) (clock : Int) (wc : World) : Prop :=
  ∃ A c, Cells wc g [.int .i64 (s.num + 1), .slice A (s.l.length + 1) c, .bool s.has, .int .i64 s.bn, .int .i64 s.bc, .int .i64 s.cm] ∧ Own wc 2 A (s.l.length + 1) c (flat (s.l ++ [(s.num + 1, clock)])) ∧ blk A ≠ some g ∧ Mod F w wc ∧
    ∀ k, blk A = some k → F k ∨ w.heap.size ≤ k
theorem askMid_mk {w W1 W' w2 : World} {g : Nat} {F : Nat → Prop} {s : Pf} {clock : Int} {A A' : Option Addr} {c' : Nat} (hM : Mod F w W1) (hsz : W1.heap.size = w.heap.size) (hFg : F g) (hFA : ∀ k, blk A = some k → F k) (hne : blk A ≠ some g) (hgl : g < w.heap.size)
    (hW' : ∃ o, W' = (W1.alloc o).drew) (ho2 : Own w2 2 A' (s.l.length + 1) c' (flat s.l ++ [.int .i64 (s.num + 1), .int .i64 clock])) (hg2 : W'.grownBy w2 (blk A)) (hb2 : blk A' = blk A ∨ ∃ k, blk A' = some k ∧ W'.heap.size ≤ k) {c : Nat}
    (hC2 : Cells w2 g [.int .i64 (s.num + 1), .slice A s.l.length c, .bool s.has, .int .i64 s.bn, .int .i64 s.bc, .int .i64 s.cm]) :
    AskMid w g F s clock (w2.setCell ⟨g, 1, none⟩ (.slice A' (s.l.length + 1) c')) := by
  obtain ⟨o, rfl⟩ := hW'
  have hne' : blk A' ≠ some g := by
    rcases hb2 with e | ⟨k, e, hk⟩
    · rw [e]; exact hne
    · rw [e]; intro h; injection h with h; simp at hk; omega
  refine ⟨A', c', hC2.set_ 1 _, ?_, hne', ?_, fun k hk => ?_⟩
  · rw [flat_app]; exact ho2.far (p := ⟨g, 1, none⟩) hne' _
  · exact (((hM.alloc o).drew).grown hg2 fun k hk => .inl (hFA k hk)).setCell (.inl hFg) _
  · rcases hb2 with e | ⟨q, e, hq⟩
    · exact .inl (hFA k (by rw [← e]; exact hk))
    · rw [e] at hk; injection hk with hk; subst hk; simp at hq; right; omega

theorem ask_close {w wc : World} {g : Nat} {F : Nat → Prop} {s : Pf} {clock : Int} {A2 A3 : Option Addr} {c2 c3 n3 : Nat} (k : Nat) (hk : k = s.l.length + 1 - 64) (h64 : s.l.length ≤ 64) (hFg : F g)
    (hC2 : Cells wc g [.int .i64 (s.num + 1), .slice A2 (s.l.length + 1) c2, .bool s.has, .int .i64 s.bn, .int .i64 s.bc, .int .i64 s.cm]) (hO3 : Own wc 2 A3 n3 c3 ((flat (s.l ++ [(s.num + 1, clock)])).drop (k * 2))) (hn3 : n3 = s.l.length + 1 - k) (hb : blk A3 = blk A2) (hne2 : blk A2 ≠ some g)
    (hM2 : Mod F w wc) (hF2 : ∀ k, blk A2 = some k → F k ∨ w.heap.size ≤ k) :
    ∃ F', IsPf (wc.setCell ⟨g, 1, none⟩ (.slice A3 n3 c3)).drew g F' (s.ask clock) ∧ Mod F w (wc.setCell ⟨g, 1, none⟩ (.slice A3 n3 c3)).drew ∧ ∀ k, F' k → F k ∨ w.heap.size ≤ k := by
  subst hk hn3
  have hl : (s.ask clock).l.length = s.l.length + 1 - (s.l.length + 1 - 64) := by simp [Pf.ask]
  refine ⟨fun q => q = g ∨ blk A3 = some q, ⟨A3, c3, ?_, ?_, by rw [hb]; exact hne2, by rw [hl]; omega, .inl rfl, fun q h => .inr h⟩, ((hM2.setCell (.inl hFg) _).drew), ?_⟩
  · rw [hl]; exact (hC2.set_ 1 _).drew
  · have := hO3.far (p := ⟨g, 1, none⟩) (by rw [hb]; exact hne2) (.slice A3 (s.l.length + 1 - (s.l.length + 1 - 64)) c3)
    rw [flat_drop] at this
    rw [hl]
    exact this.drew
  · rintro q (rfl | h)
    · exact .inl hFg
    · exact hF2 q (by rw [← hb]; exact h)

set_option maxHeartbeats 1600000 in
theorem ask_any (g : Nat) (F : Nat → Prop) (s : Pf) (clock : Int) (w : World) (hp : IsPf w g F s) (h0 : 0 ≤ s.num) (h1 : s.num ≤ 4398046511104) :
    Calls Try.prog 11 #[.pointer (some ⟨g, 0, none⟩), .int .i64 clock] w fun e w' =>
      e = .returned (.int .i64 (s.num + 1)) ∧ ∃ F', IsPf w' g F' (s.ask clock) ∧ Mod F w w' ∧ ∀ k, F' k → F k ∨ w.heap.size ≤ k := by
  obtain ⟨A, c, hC, hO, hne, h64, hFg, hFA⟩ := hp
  obtain ⟨i0, hi0, hz0, hz1, hz2⟩ := info_parts info_q
  have c0 := hC.1 0 _ rfl
  have c1 := hC.1 1 _ rfl
  have f0 := hC.2.1 0
  have f1 := hC.2.1 1
  have hC1 := Lib.hid ((hC.set_ 0 (.int .i64 (s.num + 1))).drewN 0)
  have hO1 := Lib.hid (hO.far (p := ⟨g, 0, none⟩) hne (.int .i64 (s.num + 1)))
  have hgl := hC.2.2
  have HC := Lib.hid hC
  have HO := Lib.hid hO
  have HN := Lib.hid hne
  have HI := Lib.hid hi0
  have HZ0 := Lib.hid hz0
  have HZ1 := Lib.hid hz1
  have HZ2 := Lib.hid hz2
  clear hC hO hne hi0 hz0 hz1 hz2
  go_enter Try.func11, Try.ntmps11
  go_wp2_with fail
  clear c0 c1 f0 f1
  have hsz : (w.setCell ⟨g, 0, none⟩ (.int .i64 (s.num + 1))).heap.size = w.heap.size := by simp [World.setCell]
  have hM1 := Lib.hid (show Mod F w (w.setCell ⟨g, 0, none⟩ (.int .i64 (s.num + 1))) from (Mod.refl F w).setCell (.inl hFg) _)
  generalize hW1 : w.setCell ⟨g, 0, none⟩ (.int .i64 (s.num + 1)) = W1 at *
  clear hW1
  have c0 : W1.cell? ⟨g, 0, none⟩ = some (.int .i64 (s.num + 1)) := hC1.out.1 0 _ rfl
  have c1 : W1.cell? ⟨g, 1, none⟩ = some (.slice A s.l.length c) := hC1.out.1 1 _ rfl
  have c0a : ∀ o, (W1.alloc o).cell? ⟨g, 0, none⟩ = some (.int .i64 (s.num + 1)) := fun o => (hC1.out.alloc o).1 0 _ rfl
  have c1a : ∀ o, (W1.alloc o).cell? ⟨g, 1, none⟩ = some (.slice A s.l.length c) := fun o => (hC1.out.alloc o).1 1 _ rfl
  have f0 := hC1.out.2.1 0
  have f1 := hC1.out.2.1 1
  have hg1 := hC1.out.2.2
  have hne0 : g ≠ W1.heap.size := by omega
  have HSZ := Lib.hid hsz
  clear hsz
  have hbig : s.l.length + 1 ≤ 65 := by omega
  go_cut [] (fun wc => AskMid w g F s clock wc)
  case first =>
    go_region_law
      ((refine step_append_Own _ (by rfl) _ _ _ (by rfl) 43 i0 _ 2 16 Try.underlying41 HI.out HZ0.out HZ1.out HZ2.out (by rfl) (by decide) A s.l.length c (flat s.l) (by rfl) (by exact hO1.out.alloc _) ⟨W1.heap.size, 0, none⟩ 1 1 [.int .i64 (s.num + 1), .int .i64 clock] (by rfl) (by rfl) (by exact World.news_of_block (heap_alloc_new _ _)) (by simp [Value.oneCell']) (by decide) (by unfold maxLen; omega) (by omega) ?_; intro A' c' w2 ho2 hg2 hb2; have hC2 : Cells w2 g [.int .i64 (s.num + 1),   .slice A s.l.length c, .bool s.has, .int .i64 s.bn, .int .i64 s.bc, .int .i64 s.cm] := Cells.grown (by first | exact (hC1.out.alloc _).drew | exact hC1.out.drew.alloc _) hg2 HN.out; have k0 : w2.cell? ⟨g, 0, none⟩ = some (.int .i64 (s.num + 1)) := hC2.1 0 _ rfl; have k1 : w2.cell? ⟨g, 1, none⟩ = some (  .slice A s.l.length c) := hC2.1 1 _ rfl; have q1 := hC2.2.1 1))
    all_goals
      go_wp2_with fail
      go_meet
      exact askMid_mk hM1.out HSZ.out hFg hFA HN.out hgl (by first | exact ⟨_, rfl⟩) ho2 hg2 hb2 hC2
  case rest =>
    clear c0 c1 c0a c1a f0 f1 hg1 hne0 hC1 hO1 HC HO HN HI HZ0 HZ1 HZ2 hM1 HSZ
    obtain ⟨A2, c2, hC2, hO2, hne2, hM2, hF2⟩ := hcut
    have d0 : wc.cell? ⟨g, 0, none⟩ = some (.int .i64 (s.num + 1)) := hC2.1 0 _ rfl
    have d1 : wc.cell? ⟨g, 1, none⟩ = some (.slice A2 (s.l.length + 1) c2) := hC2.1 1 _ rfl
    have e1 := hC2.2.1 1
    have hcap := hO2.2.1
    have hmx := hO2.2.2.1
    have HC2 := Lib.hid hC2
    have HO2 := Lib.hid hO2
    have HN2 := Lib.hid hne2
    have HM2 := Lib.hid hM2
    clear hC2 hO2 hne2 hM2
    rcases Nat.lt_or_ge s.l.length 64 with hlt | hge
    · go_wp2_with fail
      go_region
      all_goals
        go_wp2
        go_ret
        exact ⟨rfl, ask_close 0 (by omega) h64 hFg HC2.out (by simpa using HO2.out) rfl rfl HN2.out HM2.out hF2⟩
    · have hw1 : IntKind.i64.wrap ((s.l.length : Int) + 1 - 64) = 1 := by rw [IntWalk.i64_in _ (by omega)]; omega
      have hw2 : wrap64 ((s.l.length : Int) + 1 - 64) = 1 := by rw [IntWalk.wrap64_in _ ⟨by omega, by omega⟩]; omega
      obtain ⟨g2, o2, rfl, hg2⟩ := HO2.out.form (by omega)
      have HO3 := Lib.hid (show Own wc 2 (some ⟨g2, o2 + 2, none⟩) s.l.length (c2 - 1) ((flat (s.l ++ [(s.num + 1, clock)])).drop (1 * 2)) by
        have := HO2.out.cut (k := 1) (by omega)
        rw [if_neg (by omega)] at this
        simpa [Addr.add_lit] using this)
      have hw3 : (1 : Int) ≤ (s.l.length : Int) + 1 := by omega
      go_wp2_with fail
      go_region
      all_goals
        go_wp2
        go_ret
        exact ⟨rfl, ask_close 1 (by omega) h64 hFg HC2.out HO3.out rfl rfl HN2.out HM2.out hF2⟩

/-! ### Get -/
def Pf.get (s : Pf) (num commit : Int) : Pf × Bool :=
  if s.has = true ∧ num ≤ s.bn then (s, false) else
  match s.l.find? (fun q => q.1 == num) with
  | some q => ({ s with has := true, bn := q.1, bc := q.2, cm := commit }, true)
  | none => (s, false)

theorem find_at {l : List (Int × Int)} {num : Int} {k : Nat} (hk : k < l.length) (h : l[k].1 = num) (hb : ∀ j (hj : j < l.length), j < k → l[j].1 ≠ num) : l.find? (fun q => q.1 == num) = some l[k] := by
  induction k generalizing l with
  | zero => cases l with
    | nil => simp at hk
    | cons a l => simp at h; simp [h]
  | succ k ih => cases l with
    | nil => simp at hk
    | cons a l =>
      have h0 : a.1 ≠ num := hb 0 (by simp) (by omega)
      rw [List.find?_cons_of_neg (by simpa using h0)]
      exact ih (l := l) (by simpa using hk) (by simpa using h) fun j hj hlt => hb (j + 1) (by simpa using hj) (by omega)
theorem find_none {l : List (Int × Int)} {num : Int} (hb : ∀ j (hj : j < l.length), l[j].1 ≠ num) : l.find? (fun q => q.1 == num) = none := by
  rw [List.find?_eq_none]
  intro q hq
  obtain ⟨j, hj, rfl⟩ := List.getElem_of_mem hq
  simpa using hb j hj

theorem get_old (g : Nat) (F : Nat → Prop) (s : Pf) (num commit : Int) (w : World) (hp : IsPf w g F s) (h1 : s.has = true) (h2 : num ≤ s.bn) :
    Calls Try.prog 12 #[.pointer (some ⟨g, 0, none⟩), .int .i64 num, .int .i64 commit] w fun e w' => e = .returned (.bool false) ∧ w = w' := by
  obtain ⟨A, c, hC, -⟩ := hp
  have c2 := hC.1 2 _ rfl
  have c3 := hC.1 3 _ rfl
  rw [h1] at c2
  clear hC h1
  go_enter Try.func12, Try.ntmps12
  go_wp2
  go_ret
  exact ⟨rfl, rfl⟩

/-- what stands at the head of Get's loop: only new blocks, nothing found so far -/
def GetRel (w : World) (s : Pf) (num : Int) (i : Value) (wr : World) : Prop :=
  ∃ k : Nat, k ≤ s.l.length ∧ i = .int .i64 k ∧ (∀ j (hj : j < s.l.length), j < k → s.l[j].1 ≠ num) ∧ Mod (fun _ => False) w wr

theorem get_close {w wr w' : World} {g : Nat} {F : Nat → Prop} {s : Pf} {num commit : Int} {A : Option Addr} {c : Nat} (hne : blk A ≠ some g) (h64 : s.l.length ≤ 64) (hFg : F g) (hFA : ∀ k, blk A = some k → F k)
    (hC : Cells w g [.int .i64 s.num, .slice A s.l.length c, .bool s.has, .int .i64 s.bn, .int .i64 s.bc, .int .i64 s.cm]) (hO : Own w 2 A s.l.length c (flat s.l)) (hold : ¬ (s.has = true ∧ num ≤ s.bn))
    {k : Nat} (hk : k < s.l.length) (hkn : s.l[k].1 = num) (hb : ∀ j (hj : j < s.l.length), j < k → s.l[j].1 ≠ num) (hM : Mod (fun _ => False) w wr)
    (hw : w' = ((((wr.setCell ⟨g, 2, none⟩ (.bool true)).setCell ⟨g, 3, none⟩ (.int .i64 s.l[k].1)).setCell ⟨g, 4, none⟩ (.int .i64 s.l[k].2)).setCell ⟨g, 5, none⟩ (.int .i64 commit)).drew) :
    IsPf w' g F (s.get num commit).1 ∧ (s.get num commit).2 = true ∧ Mod F w w' := by
  subst hw
  have hs : s.get num commit = ({ s with has := true, bn := s.l[k].1, bc := s.l[k].2, cm := commit }, true) := by
    unfold Pf.get; rw [if_neg hold, find_at hk hkn hb]
  rw [hs]
  refine ⟨⟨A, c, (((((hC.mod hM (by simp)).set_ 2 _).set_ 3 _).set_ 4 _).set_ 5 _).drew, ?_, hne, h64, hFg, hFA⟩, rfl, ?_⟩
  · exact (((((hO.mod hM (by simp)).far (p := ⟨g, 2, none⟩) hne _).far (p := ⟨g, 3, none⟩) hne _).far (p := ⟨g, 4, none⟩) hne _).far (p := ⟨g, 5, none⟩) hne _).drew
  · exact (((((hM.mono (G := F) (by simp)).setCell (.inl hFg) _).setCell (.inl hFg) _).setCell (.inl hFg) _).setCell (.inl hFg) _).drew

set_option maxHeartbeats 1600000 in
theorem get_new (g : Nat) (F : Nat → Prop) (s : Pf) (num commit : Int) (w : World) (hp : IsPf w g F s) (hold : ¬ (s.has = true ∧ num ≤ s.bn)) :
    Calls Try.prog 12 #[.pointer (some ⟨g, 0, none⟩), .int .i64 num, .int .i64 commit] w fun e w' =>
      e = .returned (.bool (s.get num commit).2) ∧ IsPf w' g F (s.get num commit).1 ∧ Mod F w w' := by
  have HP := Lib.hid hp
  obtain ⟨A, c, hC, hO, hne, h64, hFg, hFA⟩ := hp
  have c1 := hC.1 1 _ rfl
  have c2 := hC.1 2 _ rfl
  have c3 := hC.1 3 _ rfl
  have hgl := hC.2.2
  have HC := Lib.hid hC
  have HO := Lib.hid hO
  have HN := Lib.hid hne
  have HOld := Lib.hid hold
  clear hC hO hne
  have hstart : (s.has = false) ∨ (s.has = true ∧ s.bn < num) := by
    cases h : s.has
    · exact .inl rfl
    · right; refine ⟨rfl, ?_⟩; rcases Int.lt_or_le s.bn num with h' | h'; exact h'; exact absurd ⟨h, h'⟩ hold
  clear hold
  rcases hstart with h | ⟨h, hlt⟩
  all_goals
    rw [h] at c2
    have HH := Lib.hid h
    clear h
    go_enter Try.func12, Try.ntmps12
    go_wp2_with fail
    clear c1 c2 c3
    go_loopg [8, 31] s.l.length (fun m _ i wr => GetRel w s num i wr ∧ m + (intOf i).toNat = s.l.length)
    case atStart => exact ⟨⟨0, by omega, rfl, fun j _ hj => absurd hj (by omega), Mod.refl _ _⟩, by simp [intOf]⟩
    case round =>
      obtain ⟨⟨k, hk, rfl, hnf, hM⟩, hm⟩ := hrel
      by_cases hlt : k < s.l.length
      · have hO := HO.out.mod hM (by simp)
        obtain ⟨g2, o2, rfl, hg2, q1⟩ := hO.at_ (flat_num s.l k hlt)
        obtain ⟨_, _, e2, _, q2⟩ := hO.at_ (flat_clock s.l k hlt)
        injection e2 with e2
        injection e2 with e2 e3
        subst e2 e3
        rw [← Nat.add_assoc] at q2
        have hC := HC.out.mod hM (by simp)
        have f2 := hC.2.1 2
        have f3 := hC.2.1 3
        have f4 := hC.2.1 4
        have f5 := hC.2.1 5
        have b2 : wr.cell? ⟨g, 2, none⟩ = some (.bool s.has) := hC.1 2 _ rfl
        have b3 : wr.cell? ⟨g, 3, none⟩ = some (.int .i64 s.bn) := hC.1 3 _ rfl
        have b4 : wr.cell? ⟨g, 4, none⟩ = some (.int .i64 s.bc) := hC.1 4 _ rfl
        have b5 : wr.cell? ⟨g, 5, none⟩ = some (.int .i64 s.cm) := hC.1 5 _ rfl
        have hgr := hC.2.2
        clear hO hC
        by_cases hkn : s.l[k].1 = num
        · have he : (s.l[k].1 == num) = true := by simpa using hkn
          have HK := Lib.hid hkn
          clear hkn
          go_wp2_with fail
          have x2 : (wr.alloc (.cells #[.int .i64 s.l[k].1, .int .i64 s.l[k].2] 43)).cell? ⟨g, 2, none⟩ = some (.bool s.has) := by rw [World.cell?_alloc_past _ _ _ hgr]; exact b2
          have x3 : (wr.alloc (.cells #[.int .i64 s.l[k].1, .int .i64 s.l[k].2] 43)).cell? ⟨g, 3, none⟩ = some (.int .i64 s.bn) := by rw [World.cell?_alloc_past _ _ _ hgr]; exact b3
          have x4 : (wr.alloc (.cells #[.int .i64 s.l[k].1, .int .i64 s.l[k].2] 43)).cell? ⟨g, 4, none⟩ = some (.int .i64 s.bc) := by rw [World.cell?_alloc_past _ _ _ hgr]; exact b4
          have x5 : (wr.alloc (.cells #[.int .i64 s.l[k].1, .int .i64 s.l[k].2] 43)).cell? ⟨g, 5, none⟩ = some (.int .i64 s.cm) := by rw [World.cell?_alloc_past _ _ _ hgr]; exact b5
          have y2 : (wr.alloc (.cells #[.int .i64 s.l[k].1, .int .i64 s.l[k].2] 43)).frozen? ⟨g, 2, none⟩ = false := by rw [World.frozen?_alloc_past _ _ _ hgr]; exact f2
          have y3 : (wr.alloc (.cells #[.int .i64 s.l[k].1, .int .i64 s.l[k].2] 43)).frozen? ⟨g, 3, none⟩ = false := by rw [World.frozen?_alloc_past _ _ _ hgr]; exact f3
          have y4 : (wr.alloc (.cells #[.int .i64 s.l[k].1, .int .i64 s.l[k].2] 43)).frozen? ⟨g, 4, none⟩ = false := by rw [World.frozen?_alloc_past _ _ _ hgr]; exact f4
          have y5 : (wr.alloc (.cells #[.int .i64 s.l[k].1, .int .i64 s.l[k].2] 43)).frozen? ⟨g, 5, none⟩ = false := by rw [World.frozen?_alloc_past _ _ _ hgr]; exact f5
          have z0 : (wr.alloc (.cells #[.int .i64 s.l[k].1, .int .i64 s.l[k].2] 43)).cell? ⟨wr.heap.size, 0, none⟩ = some (.int .i64 s.l[k].1) := by rw [World.cell?_alloc_at _ _ _ _ rfl]; rfl
          have z1 : (wr.alloc (.cells #[.int .i64 s.l[k].1, .int .i64 s.l[k].2] 43)).cell? ⟨wr.heap.size, 1, none⟩ = some (.int .i64 s.l[k].2) := by rw [World.cell?_alloc_at _ _ _ _ rfl]; rfl
          have hM2 := Lib.hid (hM.alloc (.cells #[.int .i64 s.l[k].1, .int .i64 s.l[k].2] 43))
          clear b2 b3 b4 b5 f2 f3 f4 f5 q1 q2 hM he
          have hgn : ¬ wr.heap.size = g := by omega
          generalize wr.alloc (.cells #[.int .i64 s.l[k].1, .int .i64 s.l[k].2] 43) = W2 at *
          generalize wr.heap.size = m2 at *
          clear hgr
          go_region
          all_goals
            go_wp2
            go_ret
            obtain ⟨r1, r2, r3⟩ := get_close HN.out h64 hFg hFA HC.out HO.out HOld.out hlt HK.out hnf hM2.out (commit := commit) rfl
            exact ⟨by rw [r2]; rfl, r1, r3⟩
        · have he : (s.l[k].1 == num) = false := by simpa using hkn
          have HK := Lib.hid hkn
          clear hkn
          have hM2 := Lib.hid (hM.alloc (.cells #[.int .i64 s.l[k].1, .int .i64 s.l[k].2] 43))
          clear hM
          go_wp2_with fail
          go_roundg (gk - 1)
          case measure => simp [intOf] at hm; omega
          case rel =>
            refine ⟨⟨k + 1, by omega, by go_num, fun j hj hjk => ?_, hM2.out⟩, by simp [intOf] at *; omega⟩
            by_cases e : j = k
            · subst e; exact HK.out
            · exact hnf j hj (by omega)
      · have hM' := Lib.hid hM
        clear hM
        go_wp2_with fail
        go_ret
        have hn := find_none (l := s.l) (num := num) fun j hj => hnf j hj (by omega)
        have hs : s.get num commit = (s, false) := by unfold Pf.get; rw [if_neg HOld.out, hn]
        rw [hs]
        exact ⟨rfl, HP.out.mod hM'.out (by simp), hM'.out.mono (by simp)⟩

theorem get_any (g : Nat) (F : Nat → Prop) (s : Pf) (num commit : Int) (w : World) (hp : IsPf w g F s) :
    Calls Try.prog 12 #[.pointer (some ⟨g, 0, none⟩), .int .i64 num, .int .i64 commit] w fun e w' =>
      e = .returned (.bool (s.get num commit).2) ∧ IsPf w' g F (s.get num commit).1 ∧ Mod F w w' := by
  by_cases h : s.has = true ∧ num ≤ s.bn
  · have hs : s.get num commit = (s, false) := by unfold Pf.get; rw [if_pos h]
    rw [hs]
    exact (get_old g F s num commit w hp h.1 h.2).mono fun e w' ⟨h1, h2⟩ => by subst h2; exact ⟨h1, hp, Mod.refl _ _⟩
  · exact get_new g F s num commit w hp h

/-! ### Left, Good, Drop, New -/
def Pf.left (s : Pf) (clock commit : Int) : Int :=
  if s.has = false ∨ commit < s.cm ∨ clock < s.bc then 0 else if 12 ≤ clock - s.bc then 0 else 12 - (clock - s.bc)

theorem left_any (g : Nat) (F : Nat → Prop) (s : Pf) (clock commit : Int) (w : World) (hp : IsPf w g F s) (hc0 : 0 ≤ clock) (hc1 : clock ≤ 4398046511104) (hb0 : 0 ≤ s.bc) (hb1 : s.bc ≤ 4398046511104) :
    Calls Try.prog 18 #[.pointer (some ⟨g, 0, none⟩), .int .i64 clock, .int .i64 commit] w fun e w' => e = .returned (.int .i64 (s.left clock commit)) ∧ w = w' := by
  obtain ⟨A, c, hC, -⟩ := hp
  have c2 : w.cell? ⟨g, 2, none⟩ = some (.bool s.has) := hC.1 2 _ rfl
  have c4 : w.cell? ⟨g, 4, none⟩ = some (.int .i64 s.bc) := hC.1 4 _ rfl
  have c5 : w.cell? ⟨g, 5, none⟩ = some (.int .i64 s.cm) := hC.1 5 _ rfl
  clear hC
  unfold Pf.left
  generalize s.bc = b at *
  generalize s.cm = m at *
  generalize s.has = h at *
  cases h
  · rw [if_pos (.inl rfl)]
    go_enter Try.func18, Try.ntmps18
    go_wp2
    go_ret
    exact ⟨rfl, rfl⟩
  · by_cases h1 : commit < m
    · rw [if_pos (.inr (.inl h1))]
      go_enter Try.func18, Try.ntmps18
      go_wp2
      go_ret
      exact ⟨rfl, rfl⟩
    · by_cases h2 : clock < b
      · rw [if_pos (.inr (.inr h2))]
        go_enter Try.func18, Try.ntmps18
        go_wp2
        go_ret
        exact ⟨rfl, rfl⟩
      · rw [if_neg (by rintro (h | h | h) <;> simp_all)]
        by_cases h3 : 12 ≤ clock - b
        · rw [if_pos h3]
          go_enter Try.func18, Try.ntmps18
          go_wp2
          go_ret
          exact ⟨rfl, rfl⟩
        · rw [if_neg h3]
          go_enter Try.func18, Try.ntmps18
          go_wp2
          go_ret
          exact ⟨rfl, rfl⟩

theorem left_eq (g : Nat) (F : Nat → Prop) (s : Pf) (clock commit v : Int) (w : World) (hp : IsPf w g F s) (hv : s.left clock commit = v) (hc0 : 0 ≤ clock) (hc1 : clock ≤ 4398046511104) (hb0 : 0 ≤ s.bc) (hb1 : s.bc ≤ 4398046511104) :
    Calls Try.prog 18 #[.pointer (some ⟨g, 0, none⟩), .int .i64 clock, .int .i64 commit] w fun e w' => e = .returned (.int .i64 v) ∧ w = w' := by
  subst hv; exact left_any g F s clock commit w hp hc0 hc1 hb0 hb1
theorem left_nil (clock commit : Int) (w : World) :
    Calls Try.prog 18 #[.pointer none, .int .i64 clock, .int .i64 commit] w fun e w' => e = .returned (.int .i64 0) ∧ w = w' := by
  go_enter Try.func18, Try.ntmps18
  go_wp2
  go_ret
  exact ⟨rfl, rfl⟩
theorem good_eq (g : Nat) (F : Nat → Prop) (s : Pf) (clock commit : Int) (v : Bool) (w : World) (hp : IsPf w g F s) (hv : decide (0 < s.left clock commit) = v) (hc0 : 0 ≤ clock) (hc1 : clock ≤ 4398046511104) (hb0 : 0 ≤ s.bc) (hb1 : s.bc ≤ 4398046511104) :
    Calls Try.prog 13 #[.pointer (some ⟨g, 0, none⟩), .int .i64 clock, .int .i64 commit] w fun e w' => e = .returned (.bool v) ∧ w = w' := by
  have HP := Lib.hid hp
  have HV := Lib.hid hv
  clear hp hv
  go_enter Try.func13, Try.ntmps13
  go_wp2_with fail
  refine (left_any g F s clock commit _ HP.out hc0 hc1 hb0 hb1).mono ?_
  rintro e w' ⟨rfl, rfl⟩
  go_wp2_with fail
  go_ret
  exact ⟨by rw [← HV.out]; rfl, rfl⟩
theorem good_nil (clock commit : Int) (w : World) :
    Calls Try.prog 13 #[.pointer none, .int .i64 clock, .int .i64 commit] w fun e w' => e = .returned (.bool false) ∧ w = w' := by
  go_enter Try.func13, Try.ntmps13
  go_wp2_with (go_at_call 18; refine (left_nil _ _ _).mono ?_; rintro e w' ⟨rfl, rfl⟩)
  go_ret
  exact ⟨rfl, rfl⟩
theorem ask_nil (clock : Int) (w : World) :
    Calls Try.prog 11 #[.pointer none, .int .i64 clock] w fun e w' => e = .returned (.int .i64 0) ∧ w = w' := by
  go_enter Try.func11, Try.ntmps11
  go_wp2
  go_ret
  exact ⟨rfl, rfl⟩
theorem get_nil (num commit : Int) (w : World) :
    Calls Try.prog 12 #[.pointer none, .int .i64 num, .int .i64 commit] w fun e w' => e = .returned (.bool false) ∧ w = w' := by
  go_enter Try.func12, Try.ntmps12
  go_wp2
  go_ret
  exact ⟨rfl, rfl⟩
theorem drop_nil (w : World) :
    Calls Try.prog 16 #[.pointer none] w fun e w' => e = .returned (.tuple #[]) ∧ w = w' := by
  go_enter Try.func16, Try.ntmps16
  go_wp2
  go_end0
  exact ⟨rfl, rfl⟩

def Pf.drop (s : Pf) : Pf := ⟨s.num, [], false, 0, 0, 0⟩
theorem drop_any (g : Nat) (F : Nat → Prop) (s : Pf) (w : World) (hp : IsPf w g F s) :
    Calls Try.prog 16 #[.pointer (some ⟨g, 0, none⟩)] w fun e w' => e = .returned (.tuple #[]) ∧ IsPf w' g F s.drop ∧ Mod F w w' := by
  obtain ⟨A, c, hC, hO, hne, h64, hFg, hFA⟩ := hp
  have c0 : w.cell? ⟨g, 0, none⟩ = some (.int .i64 s.num) := hC.1 0 _ rfl
  have c1 : w.cell? ⟨g, 1, none⟩ = some (.slice A s.l.length c) := hC.1 1 _ rfl
  have c2 : w.cell? ⟨g, 2, none⟩ = some (.bool s.has) := hC.1 2 _ rfl
  have c3 : w.cell? ⟨g, 3, none⟩ = some (.int .i64 s.bn) := hC.1 3 _ rfl
  have c4 : w.cell? ⟨g, 4, none⟩ = some (.int .i64 s.bc) := hC.1 4 _ rfl
  have c5 : w.cell? ⟨g, 5, none⟩ = some (.int .i64 s.cm) := hC.1 5 _ rfl
  have f0 := hC.2.1 0
  have f1 := hC.2.1 1
  have f2 := hC.2.1 2
  have f3 := hC.2.1 3
  have f4 := hC.2.1 4
  have f5 := hC.2.1 5
  have HC := Lib.hid hC
  clear hC hO hne
  go_enter Try.func16, Try.ntmps16
  go_wp2
  go_end0
  refine ⟨rfl, ⟨none, 0, ((((((HC.out.set_ 0 (.int .i64 s.num)).set_ 1 (.slice none 0 0)).set_ 2 (.bool false)).set_ 3 (.int .i64 0)).set_ 4 (.int .i64 0)).set_ 5 (.int .i64 0)), Own.nil _ _, by simp [blk], by simp [Pf.drop], hFg, by simp [blk]⟩, ?_⟩
  exact ((((((Mod.refl F w).setCell (.inl hFg) _).setCell (.inl hFg) _).setCell (.inl hFg) _).setCell (.inl hFg) _).setCell (.inl hFg) _).setCell (.inl hFg) _

theorem new_any (base : Int) (w : World) :
    Calls Try.prog 10 #[.int .i64 base] w fun e w' => e = .returned (.pointer (some ⟨w.heap.size, 0, none⟩)) ∧ IsPf w' w.heap.size (fun k => k = w.heap.size) ⟨base, [], false, 0, 0, 0⟩ ∧ Mod (fun _ => False) w w' := by
  go_enter Try.func10, Try.ntmps10
  go_wp2
  go_ret
  exact ⟨rfl, ⟨none, 0, Cells.new w _ _, Own.nil _ _, by simp [blk], by simp, rfl, by simp [blk]⟩, (Mod.refl _ _).alloc _⟩

theorem ask_eq (g : Nat) (F : Nat → Prop) (s : Pf) (clock v : Int) (w : World) (hp : IsPf w g F s) (hv : s.num + 1 = v) (h0 : 0 ≤ s.num) (h1 : s.num ≤ 4398046511104) :
    Calls Try.prog 11 #[.pointer (some ⟨g, 0, none⟩), .int .i64 clock] w fun e w' =>
      e = .returned (.int .i64 v) ∧ ∃ F', IsPf w' g F' (s.ask clock) ∧ Mod F w w' ∧ ∀ k, F' k → F k ∨ w.heap.size ≤ k := by
  subst hv; exact ask_any g F s clock w hp h0 h1
theorem get_eq (g : Nat) (F : Nat → Prop) (s : Pf) (num commit : Int) (s' : Pf) (v : Bool) (w : World) (hp : IsPf w g F s) (hv : s.get num commit = (s', v)) :
    Calls Try.prog 12 #[.pointer (some ⟨g, 0, none⟩), .int .i64 num, .int .i64 commit] w fun e w' =>
      e = .returned (.bool v) ∧ IsPf w' g F s' ∧ Mod F w w' := by
  have := get_any g F s num commit w hp
  rw [hv] at this
  exact this

theorem begun_any (w : World) : Calls Try.prog 9 #[] w fun e w' => e = .returned (.bool true) ∧ Below w.heap.size w w' := by
  go_enter Try.func9, Try.ntmps9
  go_wp2_with fail
  refine (new_any 100 _).mono ?_
  rintro e w1 ⟨rfl, p1, m1⟩
  have P1 := Lib.hid p1
  have M1 := Lib.hid m1
  clear p1 m1
  go_wp2_with fail
  refine (ask_eq _ _ _ 5 101 _ P1.out (by decide) (by decide) (by decide)).mono ?_
  rintro e w2 ⟨rfl, F2, p2, m2, n2⟩
  have P2 := Lib.hid p2
  have M2 := Lib.hid m2
  have N2 := Lib.hid n2
  clear p2 m2 n2
  go_wp2_with fail
  refine (good_eq _ _ _ 5 9 false _ P2.out (by decide) (by decide) (by decide) (by decide) (by decide)).mono ?_
  rintro e w' ⟨rfl, rfl⟩
  go_wp2_with fail
  refine (get_eq _ _ _ 101 3 ⟨101, [(101, 5)], true, 101, 5, 3⟩ true _ P2.out (by rfl)).mono ?_
  rintro e w3 ⟨rfl, p3, m3⟩
  have P3 := Lib.hid p3
  have M3 := Lib.hid m3
  clear p3 m3
  go_wp2_with fail
  refine (good_eq _ _ _ 16 3 true _ P3.out (by decide) (by decide) (by decide) (by decide) (by decide)).mono ?_
  rintro e w' ⟨rfl, rfl⟩
  go_wp2_with fail
  refine (good_eq _ _ _ 17 3 false _ P3.out (by decide) (by decide) (by decide) (by decide) (by decide)).mono ?_
  rintro e w' ⟨rfl, rfl⟩
  go_wp2_with fail
  refine (good_eq _ _ _ 16 2 false _ P3.out (by decide) (by decide) (by decide) (by decide) (by decide)).mono ?_
  rintro e w' ⟨rfl, rfl⟩
  go_wp2_with fail
  refine (good_eq _ _ _ 4 3 false _ P3.out (by decide) (by decide) (by decide) (by decide) (by decide)).mono ?_
  rintro e w' ⟨rfl, rfl⟩
  go_wp2_with fail
  refine (left_eq _ _ _ 6 3 11 _ P3.out (by decide) (by decide) (by decide) (by decide) (by decide)).mono ?_
  rintro e w' ⟨rfl, rfl⟩
  go_wp2_with fail
  refine (get_eq _ _ _ 101 4 ⟨101, [(101, 5)], true, 101, 5, 3⟩ false _ P3.out (by rfl)).mono ?_
  rintro e w4 ⟨rfl, p4, m4⟩
  have M4 := Lib.hid m4
  clear p4 m4
  go_wp2_with fail
  go_ret
  refine ⟨rfl, ?_⟩
  have q1 := Mod.below (Below.refl _ w) M1.out (by simp)
  have q2 := Mod.below q1 M2.out (by rintro k rfl; exact Nat.le_refl _)
  have f2 : ∀ k, F2 k → w.heap.size ≤ k := fun k hk => by
    rcases N2.out k hk with h | h
    · exact Nat.le_of_eq h.symm
    · exact Nat.le_trans q1.size h
  exact Mod.below (Mod.below q2 M3.out f2) M4.out f2
end Go.Proofs.Ytlddijiljkmbmaa
