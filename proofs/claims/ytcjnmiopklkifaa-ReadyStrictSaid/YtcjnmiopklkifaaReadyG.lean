/- What one telling does: as a plain fold, and the program's Go. -/
import Derived.Test.YtcjnmiopklkifaaReadyM
namespace Go.Proofs.Ytcjnmiopklkifaa
open Go.RowKit
attribute [local go_sem ↓] Go.wp_at_zero Go.wp_at_succ
set_option linter.unusedVariables false
set_option linter.unusedSimpArgs false

/-! ### plain -/
structure R where
  out : List To
  s : Sn
def Sn.drop (s : Sn) (od : Int) : Sn := ⟨false, s.o0 && od != 0, s.o1 && od != 1, s.o2 && od != 2⟩
def tellB (T : List To) (r : R) (e : En) (i : Nat) (c now : Int) : Bool := !hasB (T ++ r.out) e && mayB r.s e i c now
def stepR (T : List To) (c now : Int) (i : Nat) (e : En) (r : R) : R :=
  if tellB T r e i c now = true then ⟨r.out ++ [⟨(i : Int) + 1, e⟩], r.s⟩
  else if hasB (T ++ r.out) e = true then r else ⟨r.out, r.s.drop e.od⟩
def runR (T : List To) (l : List En) (c now : Int) : Nat → R
  | 0 => ⟨[], ⟨true, true, true, true⟩⟩
  | k + 1 => match l[k]? with
    | some e => stepR T c now k e (runR T l c now k)
    | none => runR T l c now k
theorem runR_next {T : List To} {l : List En} {c now : Int} {k : Nat} (hk : k < l.length) : runR T l c now (k + 1) = stepR T c now k l[k] (runR T l c now k) := by
  rw [runR, List.getElem?_eq_getElem hk]
/-- what is told -/
def goR (T : List To) (l : List En) (c now : Int) : List To := (runR T l c now l.length).out
theorem runR_len (T : List To) (l : List En) (c now : Int) (k : Nat) : (runR T l c now k).out.length ≤ k := by
  induction k with
  | zero => simp [runR]
  | succ k ih =>
    rw [runR]
    split
    · unfold stepR
      split
      · simp; omega
      · split
        · omega
        · show (runR T l c now k).out.length ≤ k + 1; omega
    · omega
theorem step_has {T : List To} {c now : Int} {i : Nat} {e : En} {r : R} (h : hasB (T ++ r.out) e = true) : stepR T c now i e r = r := by
  unfold stepR tellB; simp [h]
theorem step_tell {T : List To} {c now : Int} {i : Nat} {e : En} {r : R} (h : hasB (T ++ r.out) e = false) (hm : mayB r.s e i c now = true) : stepR T c now i e r = ⟨r.out ++ [⟨(i : Int) + 1, e⟩], r.s⟩ := by
  unfold stepR tellB; simp [h, hm]
theorem step_not {T : List To} {c now : Int} {i : Nat} {e : En} {r : R} (h : hasB (T ++ r.out) e = false) (hm : mayB r.s e i c now = false) : stepR T c now i e r = ⟨r.out, r.s.drop e.od⟩ := by
  unfold stepR tellB; simp [h, hm]
theorem hasB_app (T U : List To) (e : En) : hasB (T ++ U) e = (hasB T e || hasB U e) := by unfold hasB; rw [List.any_append]
theorem same_self (e : En) : same e e = true := by simp [same]
theorem hasB_new (T : List To) (e : En) (a : Int) : hasB (T ++ [⟨a, e⟩]) e = true := by rw [hasB_app]; simp [hasB, same_self]
theorem may_clip (s : Sn) (e : En) (i n : Nat) (c now : Int) (hi : i < n) : mayB s e i (min (max c 0) n) now = mayB s e i c now := by
  unfold mayB lvB
  rw [show decide ((i : Int) < min (max c 0) (n : Int)) = decide ((i : Int) < c) by rw [decide_eq_decide]; omega]

/-! ### the queue grows -/
theorem q_tell {w W' w2 : World} {g : Nat} {F : Nat → Prop} {T : List To} {t : To} {A A' : Option Addr} {c c' : Nat} (hC : Cells w g [.slice A T.length c]) (hne : blk A ≠ some g) (hFg : F g) (hFA : ∀ k, blk A = some k → F k) (hFs : ∀ k, F k → k < w.heap.size)
    (hM : Mod F w W') (hs : w.heap.size ≤ W'.heap.size) (ho2 : Own w2 8 A' (T.length + 1) c' (tcells T ++ t.cells)) (hg2 : W'.grownBy w2 (blk A)) (hb2 : blk A' = blk A ∨ ∃ k, blk A' = some k ∧ W'.heap.size ≤ k)
    (hC2 : Cells w2 g [.slice A T.length c]) :
    ∃ F', IsQ (w2.setCell ⟨g, 0, none⟩ (.slice A' (T.length + 1) c')) g F' (T ++ [t]) ∧ Mod F w (w2.setCell ⟨g, 0, none⟩ (.slice A' (T.length + 1) c')) ∧ ∀ k, F' k → F k ∨ w.heap.size ≤ k := by
  have hgl := hC.2.2
  have hne' : blk A' ≠ some g := by
    rcases hb2 with e | ⟨k, e, hk⟩
    · rw [e]; exact hne
    · rw [e]; intro h; injection h with h; omega
  have hF' : ∀ k, k = g ∨ blk A' = some k → F k ∨ w.heap.size ≤ k := by
    rintro k (rfl | hk)
    · exact .inl hFg
    · rcases hb2 with e | ⟨q, e, hq⟩
      · exact .inl (hFA k (e.symm.trans hk))
      · have := e.symm.trans hk; injection this with this; right; omega
  refine ⟨fun k => k = g ∨ blk A' = some k, ⟨A', c', ?_, ?_, hne', .inl rfl, fun k e => .inr e, ?_⟩, ?_, hF'⟩
  · have := hC2.set_ 0 (.slice A' (T.length + 1) c')
    simpa using this
  · have := ho2.far (p := ⟨g, 0, none⟩) hne' (.slice A' (T.length + 1) c')
    rw [tcells_app]
    simpa [tcells] using this
  · rintro k (rfl | hk)
    · simp [World.setCell]; exact hC2.2.2
    · simp [World.setCell]; exact ho2.lt hk
  · exact (hM.grown hg2 fun k e => .inl (hFA k e)).setCell (.inl hFg) _

/-- behind the queue's append -/
def QMid (w3 : World) (g : Nat) (F' : Nat → Prop) (T' : List To) (t : To) (wx : World) : Prop := ∃ F2, IsQ wx g F2 (T' ++ [t]) ∧ Mod F' w3 wx ∧ ∀ k, F2 k → F' k ∨ w3.heap.size ≤ k

/-- the state of Go's loop -/
def GoInv (w : World) (g : Nat) (F : Nat → Prop) (T : List To) (gs : Nat) (cs : Sn → List Value) (r : R) (vo : Value) (wr : World) : Prop :=
  ∃ A c F', vo = .slice A r.out.length c ∧ Own wr 8 A r.out.length c (tcells r.out) ∧ (∀ k, blk A = some k → w.heap.size ≤ k ∧ k ≠ gs ∧ ¬ F' k) ∧ Cells wr gs (cs r.s) ∧ w.heap.size ≤ gs ∧ IsQ wr g F' (T ++ r.out) ∧ ¬ F' gs ∧
    (∀ k, F' k → F k ∨ w.heap.size ≤ k) ∧ Mod F w wr
theorem GoInv.mod {w wr w' : World} {g gs : Nat} {F : Nat → Prop} {T : List To} {cs : Sn → List Value} {r : R} {vo : Value} (h : GoInv w g F T gs cs r vo wr) (hm : Mod (fun _ => False) wr w') : GoInv w g F T gs cs r vo w' := by
  obtain ⟨A, c, F', h1, h2, h3, h4, h5, h6, h7, h8, h9⟩ := h
  exact ⟨A, c, F', h1, h2.mod hm (by simp), h3, h4.mod hm (by simp), h5, h6.none_ hm, h7, h8, h9.trans hm (by simp)⟩
/-- the flags turned -/
theorem GoInv.flags {w wr w' : World} {g gs : Nat} {F : Nat → Prop} {T : List To} {cs : Sn → List Value} {r r' : R} {vo : Value} (h : GoInv w g F T gs cs r vo wr) (hm : Mod (fun k => k = gs) wr w') (ho : r'.out = r.out) (hc : Cells w' gs (cs r'.s)) : GoInv w g F T gs cs r' vo w' := by
  obtain ⟨A, c, F', h1, h2, h3, h4, h5, h6, h7, h8, h9⟩ := h
  refine ⟨A, c, F', by rw [ho]; exact h1, by rw [ho]; exact h2.mod hm fun k e => (h3 k e).2.1, h3, hc, h5, by rw [ho]; exact h6.mod hm fun k _ hk e => h7 (e ▸ hk), h7, h8, h9.trans hm fun k e => .inr (by omega)⟩
theorem GoInv.drop {w wr : World} {g gs : Nat} {F : Nat → Prop} {T : List To} {cs : Sn → List Value} {out : List To} {s s' : Sn} {vo : Value} (h : GoInv w g F T gs cs ⟨out, s⟩ vo wr) (hS : Cells wr gs (cs s)) (off off2 : Nat)
    (ho : ((cs s).set off (.bool false)).set off2 (.bool false) = cs s') : GoInv w g F T gs cs ⟨out, s'⟩ vo ((wr.setCell ⟨gs, off, none⟩ (.bool false)).setCell ⟨gs, off2, none⟩ (.bool false)) := by
  refine h.flags (Mod.setCell (F := fun k => k = gs) (Mod.setCell (F := fun k => k = gs) (Mod.refl _ _) (.inl rfl) _) (.inl rfl) _) rfl ?_
  have := (hS.set_ off (.bool false)).set_ off2 (.bool false)
  rwa [ho] at this
theorem GoInv.drop1 {w wr : World} {g gs : Nat} {F : Nat → Prop} {T : List To} {cs : Sn → List Value} {out : List To} {s s' : Sn} {vo : Value} (h : GoInv w g F T gs cs ⟨out, s⟩ vo wr) (hS : Cells wr gs (cs s)) (off : Nat)
    (ho : (cs s).set off (.bool false) = cs s') : GoInv w g F T gs cs ⟨out, s'⟩ vo (wr.setCell ⟨gs, off, none⟩ (.bool false)) := by
  refine h.flags (Mod.setCell (F := fun k => k = gs) (Mod.refl _ _) (.inl rfl) _) rfl ?_
  have := hS.set_ off (.bool false)
  rwa [ho] at this
/-- told: the queue's store, then the answer's append -/
theorem GoInv.tell {w wr w3 w6 w7 w8 : World} {g gs : Nat} {F F' F2 : Nat → Prop} {T : List To} {cs : Sn → List Value} {r r' : R} {t : To} {A A8 : Option Addr} {c c8 : Nat}
    (hO : Own wr 8 A r.out.length c (tcells r.out)) (hA : ∀ k, blk A = some k → w.heap.size ≤ k ∧ k ≠ gs ∧ ¬ F' k) (hS : Cells wr gs (cs r.s)) (hgs : w.heap.size ≤ gs) (hF' : ¬ F' gs) (hFF : ∀ k, F' k → F k ∨ w.heap.size ≤ k) (hM : Mod F w wr)
    (hM3 : Mod (fun _ => False) wr w3) (hQ6 : IsQ w6 g F2 (T ++ r.out ++ [t])) (hM6 : Mod F' w3 w6) (hF2 : ∀ k, F2 k → F' k ∨ w3.heap.size ≤ k) (hM7 : Mod (fun _ => False) w6 w7)
    (ho8 : Own w8 8 A8 (r.out.length + 1) c8 (tcells r.out ++ t.cells)) (hg8 : w7.grownBy w8 (blk A)) (hb8 : blk A8 = blk A ∨ ∃ k, blk A8 = some k ∧ w7.heap.size ≤ k) (hr : r' = ⟨r.out ++ [t], r.s⟩) :
    GoInv w g F T gs cs r' (.slice A8 (r.out.length + 1) c8) w8 := by
  subst hr
  have s1 := hM3.size
  have s2 := hM6.size
  have s3 := hM7.size
  have hgl := hS.2.2
  refine ⟨A8, c8, F2, by simp, ?_, fun k hk => ?_, ?_, hgs, ?_, ?_, ?_, ?_⟩
  · rw [tcells_app]; simpa [tcells] using ho8
  · rcases hb8 with e | ⟨q, e, hq⟩
    · have hk' := e.symm.trans hk
      have h := hA k hk'
      have hl := hO.lt hk'
      refine ⟨h.1, h.2.1, fun h2 => ?_⟩
      rcases hF2 k h2 with h3 | h3
      · exact h.2.2 h3
      · omega
    · have hk' := e.symm.trans hk
      injection hk' with hk'
      refine ⟨?_, by omega, fun h2 => ?_⟩
      · have := hM.size; omega
      · have := hQ6
        obtain ⟨_, _, _, _, _, _, _, h6⟩ := this
        have := h6 k h2; omega
  · refine Cells.grown (((hS.mod hM3 (by simp)).mod hM6 hF').mod hM7 (by simp)) hg8 fun e => ?_
    exact (hA gs e).2.1 rfl
  · have h := (hQ6.none_ hM7).mod (G := fun k => blk A = some k) (w' := w8) ((Mod.refl _ _).grown hg8 fun k e => .inl e) fun k _ hk e => by
      rcases hF2 k hk with h3 | h3
      · exact (hA k e).2.2 h3
      · have := hO.lt e; omega
    simpa using h
  · intro h2
    rcases hF2 gs h2 with h3 | h3
    · exact hF' h3
    · omega
  · intro k hk
    rcases hF2 k hk with h3 | h3
    · exact hFF k h3
    · have := hM.size; right; omega
  · refine ((((hM.trans hM3 (by simp)).trans hM6 fun k hk => ?_).trans hM7 (by simp)).grown hg8 fun k e => .inr (hA k e).1)
    exact hFF k hk

/-- what Go leaves -/
def Gone (w : World) (g : Nat) (F : Nat → Prop) (T out : List To) (e : Ending) (w' : World) : Prop :=
  ∃ A c F', e = .returned (.slice A out.length c) ∧ Own w' 8 A out.length c (tcells out) ∧ IsQ w' g F' (T ++ out) ∧ Mod F w w' ∧ (∀ k, F' k → F k ∨ w.heap.size ≤ k) ∧ ∀ k, blk A = some k → w.heap.size ≤ k ∧ ¬ F' k
theorem GoInv.gone {w wr : World} {g gs : Nat} {F : Nat → Prop} {T : List To} {cs : Sn → List Value} {r : R} {vo : Value} (h : GoInv w g F T gs cs r vo wr) : Gone w g F T r.out (.returned vo) wr := by
  obtain ⟨A, c, F', rfl, h2, h3, h4, h5, h6, h7, h8, h9⟩ := h
  exact ⟨A, c, F', rfl, h2, h6, h9, h8, fun k e => ⟨(h3 k e).1, (h3 k e).2.2⟩⟩
end Go.Proofs.Ytcjnmiopklkifaa
