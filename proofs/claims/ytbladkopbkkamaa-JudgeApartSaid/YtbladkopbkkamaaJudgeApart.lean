/- Proved: curfewlaw28.JudgeApart answers true for every number and every text. No condition. -/
import Derived.Test.YtbladkopbkkamaaJudgeE
import Derived.Deep.CutBlock
import Derived.ChangeMaps5
namespace Go.Proofs.Ytbladkopbkkamaa.judgeApart
open Go.ChangeMaps Go.ChangeShapes Go.WideShapes Go.ChangeAt Go.RowKit
set_option linter.unusedVariables false
set_option linter.unusedSimpArgs false
attribute [local go_sem ↓] Go.wp_at_zero Go.wp_at_succ

def ea (i : Nat) : En := ⟨1, 1, (i : Int) + 1, 1, 2, 0, ⟨#[]⟩⟩
def eb (n : Nat) (s : ByteArray) (i : Nat) : En := ⟨1, 1, (i : Int) + 1, 1, 2, 0, if i = n then s else ⟨#[]⟩⟩
def ta (i : Nat) : To := ⟨(i : Int) + 1, ea i⟩
def tb (n : Nat) (s : ByteArray) (i : Nat) : To := ⟨(i : Int) + 1, eb n s i⟩
def la (k : Nat) : List To := (List.range k).map ta
def lb (n : Nat) (s : ByteArray) (k : Nat) : List To := (List.range k).map (tb n s)
theorem la_len (k : Nat) : (la k).length = k := by simp [la]
theorem lb_len (n : Nat) (s : ByteArray) (k : Nat) : (lb n s k).length = k := by simp [lb]
theorem la_next (k : Nat) : tcells (la (k + 1)) = tcells (la k) ++ (ta k).cells := by
  unfold la; rw [List.range_succ, List.map_append, tcells_app]; simp [tcells]
theorem lb_next (n : Nat) (s : ByteArray) (k : Nat) : tcells (lb n s (k + 1)) = tcells (lb n s k) ++ (tb n s k).cells := by
  unfold lb; rw [List.range_succ, List.map_append, tcells_app]; simp [tcells]
theorem newsS (w : World) (p : Addr) (u : Value) (cs : Array Value) (t : TypeId) : ∀ j v, cs.toList[j]? = some v → ((w.setCell p u).alloc (.cells cs t)).cell? ((⟨w.heap.size, 0, none⟩ : Addr).add j) = some v := by
  intro j v hv
  have h := (Cells.new (w.setCell p u) cs t).1 j v hv
  rw [show (w.setCell p u).heap.size = w.heap.size by simp [World.setCell]] at h
  rw [Go.WideShapes.add_plain, Nat.zero_add]
  exact h
theorem news1 (w : World) (o : Obj) (cs : Array Value) (t : TypeId) : ∀ j u, cs.toList[j]? = some u → ((w.alloc (.cells cs t)).alloc o).cell? ((⟨w.heap.size, 0, none⟩ : Addr).add j) = some u := by
  intro j v hv
  have h := ((Cells.new w cs t).alloc o).1 j v hv
  rw [Go.WideShapes.add_plain, Nat.zero_add]
  exact h
theorem lt_alloc (w : World) (o : Obj) : w.heap.size < (w.alloc o).heap.size := by simp
theorem lt_alloc2 (w : World) (o q : Obj) : w.heap.size < ((w.alloc o).alloc q).heap.size := by simp; omega
theorem newsC {w : World} {g : Nat} {cs : List Value} (h : Cells w g cs) : ∀ j u, cs[j]? = some u → w.cell? ((⟨g, 0, none⟩ : Addr).add j) = some u := by
  intro j v hv
  rw [Go.WideShapes.add_plain, Nat.zero_add]
  exact h.1 j v hv
theorem ra_next (k : Nat) : ecells ((la (k + 1)).map To.e) = ecells ((la k).map To.e) ++ (ea k).cells := by
  unfold la; rw [List.range_succ]; simp [ecells, ta]
theorem rb_next (n : Nat) (s : ByteArray) (k : Nat) : ecells ((lb n s (k + 1)).map To.e) = ecells ((lb n s k).map To.e) ++ (eb n s k).cells := by
  unfold lb; rw [List.range_succ]; simp [ecells, tb]

/-! ### the plain law -/
theorem lb_n (n : Nat) (s : ByteArray) : lb n s n = la n := by
  unfold lb la
  apply List.map_congr_left
  intro i hi
  have h := List.mem_range.1 hi
  unfold tb ta eb ea
  rw [if_neg (by omega)]
def pa (n : Nat) : List En := (la n).map To.e
theorem pa_len (n : Nat) : (pa n).length = n := by unfold pa; rw [List.length_map, la_len]
theorem xa (n : Nat) : (la (n + 1)).map To.e = pa n ++ [ea n] := by unfold pa la; rw [List.range_succ]; simp [ta]
theorem lb_last (n : Nat) (s : ByteArray) : lb n s (n + 1) = la n ++ [tb n s n] := by
  have h : lb n s (n + 1) = lb n s n ++ [tb n s n] := by unfold lb; rw [List.range_succ]; simp
  rw [h, lb_n]
theorem la_last (n : Nat) : la (n + 1) = la n ++ [ta n] := by unfold la; rw [List.range_succ]; simp
theorem xb (n : Nat) (s : ByteArray) : (lb n s (n + 1)).map To.e = pa n ++ [eb n s n] := by
  rw [lb_last]; simp [pa, tb]
theorem eqAll_refl : ∀ l : List En, eqAll l l = true
  | [] => rfl
  | a :: l => by rw [eqAll, eqE_self, eqAll_refl l]; rfl
theorem eqAll_pre (l m : List En) : ∀ p : List En, eqAll (p ++ l) (p ++ m) = eqAll l m
  | [] => rfl
  | a :: p => by rw [List.cons_append, List.cons_append, eqAll, eqE_self, eqAll_pre l m p]; rfl
def isE (s : ByteArray) : Bool := decide (s.toList = [])
theorem eqE_last (n : Nat) (s : ByteArray) : eqE (ea n) (eb n s n) = isE s := by
  unfold eqE same ea eb isE
  rw [if_pos rfl]
  simp only [beq_self_eq_true, Bool.true_and]
  rw [show (⟨#[]⟩ : ByteArray).toList = [] by simp, Bool.eq_iff_iff, beq_iff_eq, decide_eq_true_iff]
  exact ⟨Eq.symm, Eq.symm⟩
theorem eqE_last' (n : Nat) (s : ByteArray) : eqE (eb n s n) (ea n) = isE s := by
  unfold eqE same ea eb isE
  rw [if_pos rfl]
  simp only [beq_self_eq_true, Bool.true_and]
  rw [show (⟨#[]⟩ : ByteArray).toList = [] by simp, Bool.eq_iff_iff]
  simp
theorem firm_all {l : List To} (h : ∀ t ∈ l, t.firm = true) : firm l = l.map To.e := by unfold firm; rw [List.filter_eq_self.2 h]
theorem firm_la (k : Nat) : firm (la k) = pa k := firm_all fun t ht => by
  obtain ⟨i, _, rfl⟩ := List.mem_map.1 ht
  rfl
theorem firm_lb (n : Nat) (s : ByteArray) (k : Nat) : firm (lb n s k) = (lb n s k).map To.e := firm_all fun t ht => by
  obtain ⟨i, _, rfl⟩ := List.mem_map.1 ht
  rfl
theorem pre_ab (n : Nat) (s : ByteArray) : prefixB (firm (la (n + 1))) (firm (lb n s (n + 1))) = isE s := by
  rw [firm_lb, xb, firm_la, show pa (n + 1) = pa n ++ [ea n] from xa n]
  unfold prefixB
  have l1 : (pa n ++ [ea n]).length = n + 1 := by simp [pa_len]
  have l2 : (pa n ++ [eb n s n]).length = n + 1 := by simp [pa_len]
  rw [l1, l2, List.take_of_length_le (by omega), List.take_of_length_le (by omega), eqAll_pre, eqAll_pre]
  simp only [eqAll, eqE_last, eqE_last', Bool.and_true, Nat.le_refl, decide_true, Bool.true_and, Bool.or_self]
theorem pre_pb (n : Nat) (s : ByteArray) : prefixB (firm (la n)) (firm (lb n s (n + 1))) = true := by
  rw [firm_lb, xb, firm_la]
  unfold prefixB
  rw [List.take_append_of_le_length (Nat.le_refl _), List.take_length, eqAll_refl, show decide ((pa n).length ≤ (pa n ++ [eb n s n]).length) = true by simp]
  rfl
theorem ag_1 (n : Nat) (s : ByteArray) : eqAll ((pa n ++ [ea n]).take (both ((n : Int) + 1) ((n : Int) + 1) (n + 1) (n + 1))) ((pa n ++ [eb n s n]).take (both ((n : Int) + 1) ((n : Int) + 1) (n + 1) (n + 1))) = isE s := by
  rw [show both ((n : Int) + 1) ((n : Int) + 1) (n + 1) (n + 1) = n + 1 by unfold both; omega]
  rw [List.take_of_length_le (by simp [pa_len]), List.take_of_length_le (by simp [pa_len]), eqAll_pre]
  simp only [eqAll, eqE_last, Bool.and_true]
theorem ag_2 (n : Nat) (s : ByteArray) : eqAll ((pa n ++ [ea n]).take (both (n : Int) ((n : Int) + 1) (n + 1) (n + 1))) ((pa n ++ [eb n s n]).take (both (n : Int) ((n : Int) + 1) (n + 1) (n + 1))) = true := by
  rw [show both (n : Int) ((n : Int) + 1) (n + 1) (n + 1) = n by unfold both; omega]
  rw [List.take_append_of_le_length (by simp [pa_len]), List.take_append_of_le_length (by simp [pa_len]), eqAll_refl]
theorem castE_self (e : En) : castE e e = true := by simp [castE, same]
theorem castE_ne (i j : Nat) (e : En) (h : i ≠ j) (he : e.se = (j : Int) + 1) : castE (ea i) e = false := by
  have : (((i : Int) + 1) == e.se) = false := by rw [he]; simp; omega
  unfold castE same
  rw [show (ea i).se = (i : Int) + 1 from rfl, this]
  simp
theorem castE_last (n : Nat) (s : ByteArray) : castE (ea n) (eb n s n) = isE s := by
  unfold castE same ea eb isE
  rw [if_pos rfl]
  simp only [beq_self_eq_true, Bool.true_and]
  rw [show (⟨#[]⟩ : ByteArray).toList = [] by simp, Bool.eq_iff_iff, beq_iff_eq, decide_eq_true_iff]
  exact ⟨Eq.symm, Eq.symm⟩
theorem mem_pa {n : Nat} {e : En} (h : e ∈ pa n) : ∃ i, i < n ∧ e = ea i := by
  unfold pa la at h
  rw [List.map_map] at h
  obtain ⟨i, hi, rfl⟩ := List.mem_map.1 h
  exact ⟨i, List.mem_range.1 hi, rfl⟩
theorem pa_mem {n i : Nat} (h : i < n) : ea i ∈ pa n := by
  unfold pa la
  rw [List.map_map]
  exact List.mem_map.2 ⟨i, List.mem_range.2 h, rfl⟩
theorem cast_ab (n : Nat) (s : ByteArray) : castAll (la (n + 1)) (pa n ++ [eb n s n]) = isE s := by
  unfold castAll
  rw [la_last, List.all_append]
  have h1 : ((la n).all fun t => (pa n ++ [eb n s n]).any fun e => castE t.e e) = true := by
    rw [List.all_eq_true]
    intro t ht
    obtain ⟨i, hi, rfl⟩ := List.mem_map.1 ht
    exact List.any_eq_true.2 ⟨ea i, List.mem_append_left _ (pa_mem (List.mem_range.1 hi)), castE_self _⟩
  have h2 : ((pa n).any fun e => castE (ea n) e) = false := by
    rw [List.any_eq_false]
    intro e he
    obtain ⟨i, hi, rfl⟩ := mem_pa he
    rw [castE_ne n i _ (by omega) rfl]
    simp
  rw [h1]
  simp only [List.all_cons, List.all_nil, List.any_append, List.any_cons, List.any_nil, Bool.true_and, Bool.and_true, Bool.or_false]
  rw [show (ta n).e = ea n from rfl, h2, castE_last]
  rfl

/-- two lists of our own, apart from each other -/
def Two (S : Nat) (w : World) (k : Nat) (xs ys : List Value) (va vb : Value) (wr : World) : Prop :=
  ∃ A c B d, va = .slice A k c ∧ vb = .slice B k d ∧ Own wr S A k c xs ∧ Own wr S B k d ys ∧ (∀ g, blk A = some g → w.heap.size ≤ g) ∧ (∀ g, blk B = some g → w.heap.size ≤ g ∧ blk A ≠ some g) ∧ Mod (fun _ => False) w wr

theorem Two.swap {S : Nat} {w wr : World} {k : Nat} {xs ys : List Value} {va vb : Value} (h : Two S w k xs ys va vb wr) : Two S w k ys xs vb va wr := by
  obtain ⟨A, c, B, d, h1, h2, h3, h4, h5, h6, h7⟩ := h
  exact ⟨B, d, A, c, h2, h1, h4, h3, fun g e => (h6 g e).1, fun g e => ⟨h5 g e, fun q => (h6 g q).2 e⟩, h7⟩
theorem two_next {S : Nat} {w wr v1 v2 v3 v4 : World} {k : Nat} {xs ys xs' ys' : List Value} {A A2 B B2 : Option Addr} {c c2 d d2 : Nat} (hA : Own wr S A k c xs) (hB : Own wr S B k d ys) (hfa : ∀ g, blk A = some g → w.heap.size ≤ g)
    (hfb : ∀ g, blk B = some g → w.heap.size ≤ g ∧ blk A ≠ some g) (hM : Mod (fun _ => False) w wr) (m1 : Mod (fun _ => False) wr v1) (hs : wr.heap.size < v1.heap.size)
    (ho2 : Own v2 S A2 (k + 1) c2 xs') (hg2 : v1.grownBy v2 (blk A)) (hb2 : blk A2 = blk A ∨ ∃ g, blk A2 = some g ∧ v1.heap.size ≤ g)
    (m3 : Mod (fun g => g = wr.heap.size) v2 v3) (ho4 : Own v4 S B2 (k + 1) d2 ys') (hg4 : v3.grownBy v4 (blk B)) (hb4 : blk B2 = blk B ∨ ∃ g, blk B2 = some g ∧ v3.heap.size ≤ g) :
    Two S w (k + 1) xs' ys' (.slice A2 (k + 1) c2) (.slice B2 (k + 1) d2) v4 := by
  have s1 := hM.size
  have s2 := hg2.size
  have s3 := m3.size
  have s4 := hg4.size
  refine ⟨A2, c2, B2, d2, rfl, rfl, ?_, ho4, ?_, ?_, ?_⟩
  · refine (ho2.mod m3 fun g e h => ?_).grown hg4 fun g e h => ?_
    · rcases hb2 with h2 | ⟨q, h2, hq⟩
      · have := hA.lt (h2.symm.trans e); omega
      · have := h2.symm.trans e; injection this with this; omega
    · rcases hb2 with h2 | ⟨q, h2, hq⟩
      · exact (hfb g h).2 (h2.symm.trans e)
      · have := h2.symm.trans e; injection this with this; have := hB.lt h; omega
  · intro g e
    rcases hb2 with h2 | ⟨q, h2, hq⟩
    · exact hfa g (h2.symm.trans e)
    · have := h2.symm.trans e; injection this with this; omega
  · intro g e
    rcases hb4 with h2 | ⟨q, h2, hq⟩
    · have e2 := h2.symm.trans e
      refine ⟨(hfb g e2).1, fun h => ?_⟩
      rcases hb2 with h3 | ⟨q, h3, hq⟩
      · exact (hfb g e2).2 (h3.symm.trans h)
      · have := h3.symm.trans h; injection this with this; have := hB.lt e2; omega
    · have := h2.symm.trans e
      injection this with this
      exact ⟨by omega, fun h => by have := ho2.lt h; omega⟩
  · refine (((hM.trans m1 (by simp)).grown hg2 fun g e => .inr (hfa g e)).trans m3 fun g e => .inr (by omega)).grown hg4 fun g e => .inr (hfb g e).1

set_option maxRecDepth 100000 in
set_option maxHeartbeats 6400000 in
theorem walk (a0 : Int) (a1 : ByteArray) (w : World) (w0 : (Lit.int .i64 a0).wf = true) (w1 : a1.size ≤ maxLen) :
    Calls Try.prog 6 #[.int .i64 a0, .string a1] w fun e w' => e = .returned (.bool true) ∧ Below w.heap.size w w' := by
  clear w0 w1
  obtain ⟨i0, hi0, hz0, hz1, hz2⟩ := info_parts info_to
  have HI := Lib.hid hi0
  have HZ0 := Lib.hid hz0
  have HZ1 := Lib.hid hz1
  have HZ2 := Lib.hid hz2
  clear hi0 hz0 hz1 hz2
  go_enter Try.func6, Try.ntmps6
  go_wp2_with fail
  refine (begun_any _).mono ?_
  rintro e wb ⟨rfl, hb⟩
  have HB := Lib.hid hb
  clear hb
  by_cases hbad : a0 < 0 ∨ 20 < a0 ∨ 16 < a1.size
  · by_cases h1 : a0 < 0
    · go_wp2_with fail
      go_ret
      exact ⟨rfl, HB.out⟩
    · by_cases h2 : 20 < a0
      · go_wp2_with fail
        go_ret
        exact ⟨rfl, HB.out⟩
      · have h3 : 16 < a1.size := by omega
        go_wp2_with fail
        go_ret
        exact ⟨rfl, HB.out⟩
  · obtain ⟨n, rfl⟩ : ∃ n : Nat, a0 = n := ⟨a0.toNat, by omega⟩
    have hn : n ≤ 20 := by omega
    have hs : a1.size ≤ 16 := by omega
    have p0 : ¬ (n : Int) < 0 := by omega
    have p1 : ¬ 20 < (n : Int) := by omega
    clear hbad
    go_wp2_with fail
    go_loopg [6, 7, 8] (n + 1) (fun m va vb i wr => ∃ k : Nat, k ≤ n + 1 ∧ i = .int .i64 k ∧ Hid (Two 8 wb k (tcells (la k)) (tcells (lb n a1 k)) va vb wr) ∧ m + k = n + 1)
    case atStart => exact ⟨0, by omega, rfl, Lib.hid ⟨none, 0, none, 0, rfl, rfl, Own.nil _ _, Own.nil _ _, by simp [blk], by simp [blk], Mod.refl _ _⟩, by omega⟩
    case round =>
      obtain ⟨k, hk, rfl, hO, hm⟩ := hrel
      by_cases hlt : k ≤ n
      · obtain ⟨A, c, B, d, rfl, rfl, hA, hB, hfa, hfb, hM⟩ := hO.out
        have OA := Lib.hid hA
        have OB := Lib.hid hB
        have FA := Lib.hid hfa
        have FB := Lib.hid hfb
        have HM := Lib.hid hM
        clear hA hB hfa hfb hM hO
        have oneA := Lib.hid (To.one (ta k))
        have oneB := Lib.hid (To.one (tb n a1 k))
        have NA := Lib.hid (la_next k)
        have NB := Lib.hid (lb_next n a1 k)
        unfold To.cells En.cells ta ea at NA oneA
        unfold To.cells En.cells tb eb at NB oneB
        simp only [] at NA NB oneA oneB
        have j0 : (k : Int) ≤ (n : Int) := by omega
        have hbA : blk A ≠ some wr.heap.size := fun e => by have := OA.out.lt e; omega
        have HBA := Lib.hid hbA
        clear hbA
        by_cases heq : k = n
        · subst heq
          rw [if_pos rfl] at NB oneB
          have hbB : blk B ≠ some wr.heap.size := fun e => by have := OB.out.lt e; omega
          have HBB := Lib.hid hbB
          clear hbB
          go_wp2_with (first
            | (at_builtin; refine wpList_append_Own _ rfl _ _ _ rfl 32 i0 _ 8 72 Try.underlying22 HI.out HZ0.out HZ1.out HZ2.out rfl (by decide) A _ c _ rfl ((OA.out.alloc _).alloc _) ⟨wr.heap.size + 1, 0, none⟩ 1 1 _ rfl rfl (news2 _ _ _ _) oneA.out (by decide) (by unfold maxLen; omega) (by omega) ?_; intro A2 c2 w2 ho2 hg2 hb2; have hC := Cells.grown ((Cells.new wr _ _).alloc _) hg2 HBA.out; have hf := hC.2.1 6; have z0 := hC.1 0 _ rfl; have z1 := hC.1 1 _ rfl; have z2 := hC.1 2 _ rfl; have z3 := hC.1 3 _ rfl; have z4 := hC.1 4 _ rfl; have z5 := hC.1 5 _ rfl; have z6 := hC.1 6 _ rfl; have OB2 := Lib.hid (((OB.out.alloc _).alloc _).grown hg2 fun g e => (FB.out g e).2); have HO2 := Lib.hid ho2; have HG2 := Lib.hid hg2; have HB2 := Lib.hid hb2; clear hC ho2 hg2 hb2)
            | (at_builtin; refine wpList_append_Own _ rfl _ _ _ rfl 32 i0 _ 8 72 Try.underlying22 HI.out HZ0.out HZ1.out HZ2.out rfl (by decide) B _ d _ rfl ((OB2.out.far HBB.out _).alloc _) ⟨w2.heap.size, 0, none⟩ 1 1 _ rfl rfl (newsS _ _ _ _ _) oneB.out (by decide) (by unfold maxLen; omega) (by omega) ?_; intro B2 d2 w4 ho4 hg4 hb4))
          have htwo := Lib.hid (two_next OA.out OB.out FA.out FB.out HM.out (((Mod.refl _ wr).alloc _).alloc _) (by simp; omega) HO2.out HG2.out HB2.out ((Mod.setCell (F := fun g => g = wr.heap.size) (Mod.refl _ _) (.inl rfl) _).alloc _) ho4 hg4 hb4)
          rw [← NA.out, ← NB.out] at htwo
          go_roundg (k + 1 - (k + 1))
          case measure => omega
          case rel => exact ⟨k + 1, by omega, by go_num, htwo, by omega⟩
        · have hkk : ((k : Int) == (n : Int)) = false := by simpa using (by omega : ¬ (k : Int) = n)
          rw [if_neg heq] at NB oneB
          go_wp2_with (first
            | (at_builtin; refine wpList_append_Own _ rfl _ _ _ rfl 32 i0 _ 8 72 Try.underlying22 HI.out HZ0.out HZ1.out HZ2.out rfl (by decide) A _ c _ rfl ((OA.out.alloc _).alloc _) ⟨wr.heap.size + 1, 0, none⟩ 1 1 _ rfl rfl (news2 _ _ _ _) oneA.out (by decide) (by unfold maxLen; omega) (by omega) ?_; intro A2 c2 w2 ho2 hg2 hb2; have hC := Cells.grown ((Cells.new wr _ _).alloc _) hg2 HBA.out; have z0 := hC.1 0 _ rfl; have z1 := hC.1 1 _ rfl; have z2 := hC.1 2 _ rfl; have z3 := hC.1 3 _ rfl; have z4 := hC.1 4 _ rfl; have z5 := hC.1 5 _ rfl; have z6 := hC.1 6 _ rfl; have OB2 := Lib.hid (((OB.out.alloc _).alloc _).grown hg2 fun g e => (FB.out g e).2); have HO2 := Lib.hid ho2; have HG2 := Lib.hid hg2; have HB2 := Lib.hid hb2; clear hC ho2 hg2 hb2)
            | (at_builtin; refine wpList_append_Own _ rfl _ _ _ rfl 32 i0 _ 8 72 Try.underlying22 HI.out HZ0.out HZ1.out HZ2.out rfl (by decide) B _ d _ rfl (OB2.out.alloc _) ⟨w2.heap.size, 0, none⟩ 1 1 _ rfl rfl (World.news_of_block (heap_alloc_new _ _)) oneB.out (by decide) (by unfold maxLen; omega) (by omega) ?_; intro B2 d2 w4 ho4 hg4 hb4))
          have htwo := Lib.hid (two_next OA.out OB.out FA.out FB.out HM.out (((Mod.refl _ wr).alloc _).alloc _) (by simp; omega) HO2.out HG2.out HB2.out ((Mod.refl _ _).alloc _) ho4 hg4 hb4)
          rw [← NA.out, ← NB.out] at htwo
          go_roundg (n + 1 - (k + 1))
          case measure => omega
          case rel => exact ⟨k + 1, by omega, by go_num, htwo, by omega⟩
      · obtain rfl : k = n + 1 := by omega
        obtain ⟨A, c, B, d, rfl, rfl, hA, hB, hfa, hfb, hM⟩ := hO.out
        have OA := Lib.hid hA
        have OB := Lib.hid hB
        have FA := Lib.hid hfa
        have FB := Lib.hid hfb
        have HM := Lib.hid hM
        clear hA hB hfa hfb hM hO
        go_wp2_with fail
        go_loopg [10, 11, 12] (n + 1) (fun m vx vy i wz => ∃ k : Nat, k ≤ n + 1 ∧ i = .int .i64 k ∧ Hid (Two 7 wr k (ecells ((la k).map To.e)) (ecells ((lb n a1 k).map To.e)) vx vy wz) ∧ m + k = n + 1)
        case atStart => exact ⟨0, by omega, rfl, Lib.hid ⟨none, 0, none, 0, rfl, rfl, Own.nil _ _, Own.nil _ _, by simp [blk], by simp [blk], Mod.refl _ _⟩, by omega⟩
        case round =>
          obtain ⟨k, hk, rfl, hO, hm⟩ := hrel
          by_cases hlt : k ≤ n
          · obtain ⟨X, x, Y, y, rfl, rfl, hX, hY, hfx, hfy, hMz⟩ := hO.out
            have OX := Lib.hid hX
            have OY := Lib.hid hY
            have FX := Lib.hid hfx
            have FY := Lib.hid hfy
            have MZ := Lib.hid hMz
            clear hX hY hfx hfy hMz hO
            obtain ⟨i7, hi7, hy0, hy1, hy2⟩ := info_parts info_en
            have HI7 := Lib.hid hi7
            have HY0 := Lib.hid hy0
            have HY1 := Lib.hid hy1
            have HY2 := Lib.hid hy2
            clear hi7 hy0 hy1 hy2
            have oneA := Lib.hid (En.one (ea k))
            have oneB := Lib.hid (En.one (eb n a1 k))
            have NA := Lib.hid (ra_next k)
            have NB := Lib.hid (rb_next n a1 k)
            obtain ⟨ga, oa, rfl, hga, p0, p1, p2, p3, p4, p5, p6, p7⟩ := (Sl.of_own (OA.out.mod MZ.out (by simp))).to (k := k) (by rw [la_len]; omega)
            obtain ⟨gb, ob, rfl, hgb, q0, q1, q2, q3, q4, q5, q6, q7⟩ := (Sl.of_own (OB.out.mod MZ.out (by simp))).to (k := k) (by rw [lb_len]; omega)
            rw [show (la (n + 1))[k]'(by rw [la_len]; omega) = ta k by simp [la]] at p1 p2 p3 p4 p5 p6 p7
            rw [show (lb n a1 (n + 1))[k]'(by rw [lb_len]; omega) = tb n a1 k by simp [lb]] at q1 q2 q3 q4 q5 q6 q7
            clear p0 q0
            unfold En.cells ea at NA oneA
            unfold En.cells eb at NB oneB
            unfold ta ea at p1 p2 p3 p4 p5 p6 p7
            unfold tb eb at q1 q2 q3 q4 q5 q6 q7
            simp only [] at *
            generalize (if k = n then a1 else (⟨#[]⟩ : ByteArray)) = sb at *
            have j0 : (0 : Int) ≤ (k : Int) := by omega
            have j1 : (k : Int) ≤ (n : Int) := by omega
            have j2 : (k : Int) < (n : Int) + 1 := by omega
            have OX0 := OX
            have OY0 := OY
            have FX2 := Lib.hid (show ∀ g, blk X = some g → _ ∧ blk Y ≠ some g from fun g e => ⟨FX.out g e, fun h => (FY.out g h).2 e⟩)
            have FY2 := Lib.hid (fun g (e : blk Y = some g) => (FY.out g e).1)
            have HXs := Lib.hid (show blk X ≠ some wr.heap.size from fun e => absurd (OX.out.lt e) (by omega))
            have HYs := Lib.hid (show blk Y ≠ some wr.heap.size from fun e => absurd (OY.out.lt e) (by omega))
            have HXt := Lib.hid (show blk X ≠ some (wr.heap.size + 1) from fun e => absurd (OX.out.lt e) (by omega))
            have HYt := Lib.hid (show blk Y ≠ some (wr.heap.size + 1) from fun e => absurd (OY.out.lt e) (by omega))
            have HXB := Lib.hid (show ¬ blk X = some gb from fun e => by have h1 := FX.out _ e; have h2 := OB.out.lt (g := gb) rfl; exact absurd h2 (by omega))
            have HYA := Lib.hid (show ¬ blk Y = some ga from fun e => by have h1 := (FY.out _ e).1; have h2 := OA.out.lt (g := ga) rfl; exact absurd h2 (by omega))
            go_wp2_with fail
            go_region_law (first
              | (refine step_append_Own _ (by rfl) _ _ _ (by rfl) 30 i7 _ 7 64 Try.underlying23 HI7.out HY0.out HY1.out HY2.out (by rfl) (by decide) X k x _ (by rfl) (by first | exact OX.out.alloc _ | exact (OX.out.alloc _).alloc _ | exact OX.out) ⟨_, 0, none⟩ 1 1 _ (by rfl) (by rfl) (by first | exact World.news_of_block (heap_alloc_new _ _) | exact news1 _ _ _ _ | exact news2 _ _ _ _ | exact newsC NE.out | exact newsC NF.out) oneA.out (by decide) (by unfold maxLen; omega) (by omega) ?_; intro X2 x2 wX ho hg hb; (first | have NE := Lib.hid (Cells.grown ((Cells.new wr _ _).alloc _).drew hg HXs.out) | skip); (first | have NF := Lib.hid (Cells.grown (cells_new1 wr _ _ _).drew hg HXt.out) | skip); (first | have OY := Lib.hid (Own.grown (by first | exact OY.out.alloc _ | exact (OY.out.alloc _).alloc _ | exact OY.out) hg (fun g e => (FY.out g e).2)) | skip); (first | (have mm := Mod.grown (F := fun g => blk X = some g) (w := wr) (by first | exact ((Mod.refl _ _).drew).alloc _ | exact (((Mod.refl _ _).drew).alloc _).alloc _ | exact Mod.refl _ _) hg (fun g e => .inl e); have q1 := mm.cell q1 HXB.out; have q2 := mm.cell q2 HXB.out; have q3 := mm.cell q3 HXB.out; have q4 := mm.cell q4 HXB.out; have q5 := mm.cell q5 HXB.out; have q6 := mm.cell q6 HXB.out; have q7 := mm.cell q7 HXB.out; clear mm) | skip); have HOX := Lib.hid ho; have HGX := Lib.hid hg; have HBX := Lib.hid hb; clear ho hg hb)
              | (refine step_append_Own _ (by rfl) _ _ _ (by rfl) 30 i7 _ 7 64 Try.underlying23 HI7.out HY0.out HY1.out HY2.out (by rfl) (by decide) Y k y _ (by rfl) (by first | exact OY.out.alloc _ | exact (OY.out.alloc _).alloc _ | exact OY.out) ⟨_, 0, none⟩ 1 1 _ (by rfl) (by rfl) (by first | exact World.news_of_block (heap_alloc_new _ _) | exact news1 _ _ _ _ | exact news2 _ _ _ _ | exact newsC NE.out | exact newsC NF.out) oneB.out (by decide) (by unfold maxLen; omega) (by omega) ?_; intro Y2 y2 wY ho hg hb; (first | have NE := Lib.hid (Cells.grown ((Cells.new wr _ _).alloc _).drew hg HYs.out) | skip); (first | have NF := Lib.hid (Cells.grown (cells_new1 wr _ _ _).drew hg HYt.out) | skip); (first | have OX := Lib.hid (Own.grown (by first | exact OX.out.alloc _ | exact (OX.out.alloc _).alloc _ | exact OX.out) hg (fun g e h => (FY.out g h).2 e)) | skip); (first | (have mm := Mod.grown (F := fun g => blk Y = some g) (w := wr) (by first | exact ((Mod.refl _ _).drew).alloc _ | exact (((Mod.refl _ _).drew).alloc _).alloc _ | exact Mod.refl _ _) hg (fun g e => .inl e); have p1 := mm.cell p1 HYA.out; have p2 := mm.cell p2 HYA.out; have p3 := mm.cell p3 HYA.out; have p4 := mm.cell p4 HYA.out; have p5 := mm.cell p5 HYA.out; have p6 := mm.cell p6 HYA.out; have p7 := mm.cell p7 HYA.out; clear mm) | skip); have HOY := Lib.hid ho; have HGY := Lib.hid hg; have HBY := Lib.hid hb; clear ho hg hb))
            all_goals
              have htwo := Lib.hid (show Two 7 _ (k + 1) (ecells ((la (k + 1)).map To.e)) (ecells ((lb n a1 (k + 1)).map To.e)) (.slice X2 (k + 1) x2) (.slice Y2 (k + 1) y2) _ by
                rw [NA.out, NB.out]
                first
                  | exact two_next OX0.out OY0.out FX.out FY.out MZ.out (by first | exact ((Mod.refl _ _).alloc _).drew | exact (((Mod.refl _ _).alloc _).alloc _).drew) (by first | exact lt_alloc _ _ | exact lt_alloc2 _ _ _) HOX.out HGX.out HBX.out (by first | exact Mod.refl _ _ | exact (Mod.refl _ _).alloc _) HOY.out HGY.out HBY.out
                  | exact Two.swap (two_next OY0.out OX0.out FY2.out FX2.out MZ.out (by first | exact ((Mod.refl _ _).alloc _).drew | exact (((Mod.refl _ _).alloc _).alloc _).drew) (by first | exact lt_alloc _ _ | exact lt_alloc2 _ _ _) HOY.out HGY.out HBY.out (by first | exact Mod.refl _ _ | exact (Mod.refl _ _).alloc _) HOX.out HGX.out HBX.out))
              clear HOX HGX HBX HOY HGY HBY
              go_wp2_with fail
              go_roundg (n + 1 - (k + 1))
              case measure => omega
              case rel => exact ⟨k + 1, by omega, by go_num, htwo, by omega⟩
          · obtain rfl : k = n + 1 := by omega
            obtain ⟨X, x, Y, y, rfl, rfl, hX, hY, hfx, hfy, hMz⟩ := hO.out
            have OX := Lib.hid hX
            have OY := Lib.hid hY
            have MZ := Lib.hid hMz
            clear hX hY hfx hfy hMz hO
            have hAc := OA.out.2.1
            have hAm := OA.out.2.2.1
            unfold maxLen at hAm
            have g1 : ∀ W, Mod (fun _ => False) wr W → Calls Try.prog 17 #[.slice A (n + 1) c, .slice B (n + 1) d] W (Only W (.bool (isE a1))) := fun W hW => by
              have h := prefix_any A (la (n + 1)) c B (lb n a1 (n + 1)) d W (by rw [la_len]; exact Sl.of_own ((OA.out.mod MZ.out (by simp)).mod hW (by simp))) (by rw [lb_len]; exact Sl.of_own ((OB.out.mod MZ.out (by simp)).mod hW (by simp))) (by rw [la_len]; omega) (by rw [lb_len]; omega)
              rwa [la_len, lb_len, pre_ab] at h
            have g2 : ∀ W, Mod (fun _ => False) wr W → Calls Try.prog 17 #[.slice A n c, .slice B (n + 1) d] W (Only W (.bool true)) := fun W hW => by
              have ht : Sl W 8 A (la n).length (tcells (la n)) := by
                have h1 : Sl W 8 A (la (n + 1)).length (tcells (la (n + 1))) := by rw [la_len]; exact Sl.of_own ((OA.out.mod MZ.out (by simp)).mod hW (by simp))
                have h2 := h1.takeT (k := n) (by rw [la_len]; omega)
                rwa [show (la (n + 1)).take n = la n by rw [la_last, List.take_append_of_le_length (by rw [la_len]; omega), List.take_of_length_le (by rw [la_len]; omega)]] at h2
              have h := prefix_any A (la n) c B (lb n a1 (n + 1)) d W ht (by rw [lb_len]; exact Sl.of_own ((OB.out.mod MZ.out (by simp)).mod hW (by simp))) (by rw [la_len]; omega) (by rw [lb_len]; omega)
              rwa [la_len, lb_len, pre_pb] at h
            have lx : (pa n ++ [ea n]).length = n + 1 := by simp [pa_len]
            have ly : (pa n ++ [eb n a1 n]).length = n + 1 := by simp [pa_len]
            have oX : ∀ W, Mod (fun _ => False) wr W → Own W 7 X (pa n ++ [ea n]).length x (ecells (pa n ++ [ea n])) := fun W hW => by
              have h := OX.out.mod hW (by simp)
              rwa [xa, ← lx] at h
            have oY : ∀ W, Mod (fun _ => False) wr W → Own W 7 Y (pa n ++ [eb n a1 n]).length y (ecells (pa n ++ [eb n a1 n])) := fun W hW => by
              have h := OY.out.mod hW (by simp)
              rwa [xb, ← ly] at h
            have g3 : ∀ W, Mod (fun _ => False) wr W → Calls Try.prog 20 #[.slice X (n + 1) x, .int .i64 ((n : Int) + 1), .slice Y (n + 1) y, .int .i64 ((n : Int) + 1)] W (Only W (.bool (isE a1))) := fun W hW => by
              have h := agree_any X (pa n ++ [ea n]) x ((n : Int) + 1) Y (pa n ++ [eb n a1 n]) y ((n : Int) + 1) W (Sl.of_own (oX W hW)) (Sl.of_own (oY W hW)) (oX W hW).2.1 (oX W hW).2.2.1 (oY W hW).2.1 (oY W hW).2.2.1
              rwa [lx, ly, ag_1] at h
            have g4 : ∀ W, Mod (fun _ => False) wr W → Calls Try.prog 20 #[.slice X (n + 1) x, .int .i64 (n : Int), .slice Y (n + 1) y, .int .i64 ((n : Int) + 1)] W (Only W (.bool true)) := fun W hW => by
              have h := agree_any X (pa n ++ [ea n]) x (n : Int) Y (pa n ++ [eb n a1 n]) y ((n : Int) + 1) W (Sl.of_own (oX W hW)) (Sl.of_own (oY W hW)) (oX W hW).2.1 (oX W hW).2.2.1 (oY W hW).2.1 (oY W hW).2.2.1
              rwa [lx, ly, ag_2] at h
            have g5 : ∀ W, Mod (fun _ => False) wr W → Calls Try.prog 19 #[.slice A (n + 1) c, .slice Y (n + 1) y] W (Only W (.bool (isE a1))) := fun W hW => by
              have h := cast_any A (la (n + 1)) c Y (pa n ++ [eb n a1 n]) y W (by rw [la_len]; exact Sl.of_own ((OA.out.mod MZ.out (by simp)).mod hW (by simp))) (Sl.of_own (oY W hW))
              rwa [la_len, ly, cast_ab] at h
            have g6 : ∀ W, Mod (fun _ => False) wr W → Calls Try.prog 12 #[.slice X (n + 1) x, .int .i64 99] W (fun e w' => ∃ A' c', e = .returned (.slice A' (n + 1) c') ∧ Mod (fun _ => False) W w') := fun W hW => by
              have h := entries_any X (pa n ++ [ea n]) x 99 W (Sl.of_own (oX W hW)) (fun e he => by
                have h1 : e.da = ⟨#[]⟩ := by
                  rcases List.mem_append.1 he with h2 | h2
                  · obtain ⟨i, _, rfl⟩ := mem_pa h2; rfl
                  · rw [List.mem_singleton.1 h2]; rfl
                rw [h1]; unfold maxLen; simp [ByteArray.size]) (by decide)
              rw [lx] at h
              refine h.mono ?_
              rintro e w' ⟨A', c', rfl, _, hm, _⟩
              exact ⟨A', c', by rw [List.length_map, List.length_take, lx, show min 99 (n + 1) = n + 1 by omega], hm⟩
            have BW := Lib.hid (Mod.below (Mod.below HB.out HM.out (by simp)) MZ.out (by simp))
            have MM := Lib.hid (Mod.refl (fun _ => False) wr)
            clear lx ly oX oY OA OB OX OY HM MZ FA FB
            have i0 : (0 : Int) ≤ (n : Int) := by omega
            have i1 : (n : Int) ≤ (c : Int) := by omega
            have hsb : a1 = ⟨#[]⟩ ∨ ¬ a1.toList = [] := by
              by_cases e : a1.toList = []
              · left
                have h1 : a1.data.toList = [] := by rw [← ByteArray.toList_eq]; exact e
                cases a1 with
                | mk dd => simp at h1; rw [h1]
              · exact .inr e
            rcases hsb with rfl | hne
            · rw [show isE ⟨#[]⟩ = true by simp [isE]] at g1 g3 g5
              have G1 := Lib.hid g1
              have G2 := Lib.hid g2
              have G3 := Lib.hid g3
              have G4 := Lib.hid g4
              have G5 := Lib.hid g5
              have G6 := Lib.hid g6
              clear g1 g2 g3 g4 g5 g6
              go_wp2_with fail
              refine (G1.out _ MM.out).mono ?_
              rintro e z ⟨rfl, mz⟩; have MM := Lib.hid (MM.out.trans mz (by simp)); clear mz
              go_wp2_with fail
              refine (G2.out _ MM.out).mono ?_
              rintro e z ⟨rfl, mz⟩; have MM := Lib.hid (MM.out.trans mz (by simp)); clear mz
              go_wp2_with fail
              refine (G3.out _ MM.out).mono ?_
              rintro e z ⟨rfl, mz⟩; have MM := Lib.hid (MM.out.trans mz (by simp)); clear mz
              go_wp2_with fail
              refine (G4.out _ MM.out).mono ?_
              rintro e z ⟨rfl, mz⟩; have MM := Lib.hid (MM.out.trans mz (by simp)); clear mz
              go_wp2_with fail
              refine (G5.out _ MM.out).mono ?_
              rintro e z ⟨rfl, mz⟩; have MM := Lib.hid (MM.out.trans mz (by simp)); clear mz
              go_wp2_with fail
              refine (G6.out _ MM.out).mono ?_
              rintro e z ⟨A6, c6, rfl, mz⟩; have MM := Lib.hid (MM.out.trans mz (by simp)); clear mz
              go_wp2_with fail
              go_ret
              exact ⟨rfl, Mod.below BW.out MM.out (by simp)⟩
            · have hne2 : (!a1.toList.isEmpty) = true := by simpa using hne
              rw [show isE a1 = false by unfold isE; simpa using hne] at g1 g3 g5
              have G1 := Lib.hid g1
              have G2 := Lib.hid g2
              have G3 := Lib.hid g3
              have G4 := Lib.hid g4
              have G5 := Lib.hid g5
              have G6 := Lib.hid g6
              clear g1 g2 g3 g4 g5 g6
              go_wp2_with fail
              refine (G1.out _ MM.out).mono ?_
              rintro e z ⟨rfl, mz⟩; have MM := Lib.hid (MM.out.trans mz (by simp)); clear mz
              go_wp2_with fail
              refine (G2.out _ MM.out).mono ?_
              rintro e z ⟨rfl, mz⟩; have MM := Lib.hid (MM.out.trans mz (by simp)); clear mz
              go_wp2_with fail
              refine (G3.out _ MM.out).mono ?_
              rintro e z ⟨rfl, mz⟩; have MM := Lib.hid (MM.out.trans mz (by simp)); clear mz
              go_wp2_with fail
              refine (G4.out _ MM.out).mono ?_
              rintro e z ⟨rfl, mz⟩; have MM := Lib.hid (MM.out.trans mz (by simp)); clear mz
              go_wp2_with fail
              refine (G5.out _ MM.out).mono ?_
              rintro e z ⟨rfl, mz⟩; have MM := Lib.hid (MM.out.trans mz (by simp)); clear mz
              go_wp2_with fail
              refine (G6.out _ MM.out).mono ?_
              rintro e z ⟨A6, c6, rfl, mz⟩; have MM := Lib.hid (MM.out.trans mz (by simp)); clear mz
              go_wp2_with fail
              go_ret
              exact ⟨rfl, Mod.below BW.out MM.out (by simp)⟩
/-! ### the row's step -/
theorem own : ownKnob Try.prog.godebug = none := by kernel_rfl
theorem laidOut : laidOutB Try.prog = true := by kernel_rfl
set_option maxRecDepth 100000 in
theorem lifted (os : Os) (started : os.Started) (H : Type) (enc : TypeId × Value → H) :
    ReturnsInHanded {} Try.checked os 6 .any (Rows.judgeApartSpec.pre6 enc Try.prog Try.f6 Rows.judgeApartRow.domain false) (Rows.judgeApartSpec.post enc Try.prog Try.f6 false true false false) := by
  refine returnsInHanded_of_change (C := Try.checked) own started (by kernel_rfl) Try.func6
    (ChangeSpec.witness6 (enc := enc) (C := Try.checked) false ⟨#[], #[.int .i64 0, .string ByteArray.empty], []⟩ 8 (by kernel_rfl) (by kernel_rfl) (by kernel_rfl) (by kernel_rfl)) ?_
  intro W base args ds gs before hval0 hW hcnd _
  have hval : ∀ (j : Nat) t v, Try.f6.params[j]? = some t → args[j]? = some v → Value.okWide Try.prog W .any base t v := hval0
  have hW' := hW
  obtain ⟨p, q, hA0, hV, rfl, hfz, hnd⟩ := hW
  have hA : DataW.TrodAll enc Try.prog W 0 (fun _ => true) true Try.f6.params.toList args.toList ds p := hA0
  rw [Try.params6] at hA hval
  obtain ⟨v0, vs0, d0, ds0, p0, q0, hargs, rfl, rfl, h0, r0⟩ := trodAll_cons hA
  obtain ⟨v1, vs1, d1, ds1, p1, q1, rfl, rfl, rfl, h1, r1⟩ := trodAll_cons r0
  obtain ⟨rfl, rfl, rfl⟩ := trodAll_nil r1
  obtain rfl : args = #[v0, v1] := by cases args; simp_all
  obtain ⟨rfl, rfl⟩ := trodVars_none hV
  have k0 := h0
  have lt0 : ∀ x ∈ p0, x.block < W.heap.size := by obtain ⟨m, hm⟩ := k0; exact DataW.trod_lt m _ _ _ hm
  have k1 := h1
  have lt1 : ∀ x ∈ p1, x.block < W.heap.size := by obtain ⟨m, hm⟩ := k1; exact DataW.trod_lt m _ _ _ hm
  obtain ⟨a0, rfl, rfl, rfl, w0⟩ := open_int Try.underlying3 (hval 0 3 v0 rfl rfl) h0
  obtain ⟨a1, rfl, rfl, rfl, w1⟩ := open_string Try.underlying9 (hval 1 9 v1 rfl rfl) h1
  clear hA0 hval0
  refine (walk a0 a1 W w0 w1).mono fun e W' ⟨he, bel⟩ => ?_
  subst he
  exact ⟨_, rfl, _, _, _, [], _, [], hW', trodAll_mk1 (shut_bool Try.underlying4 _), (trodAll_cons_mk (Below.trod laidOut (by kernel_rfl) (of_decide_eq_true (by kernel_rfl)) k0 bel lt0) (trodAll_cons_mk (Below.trod laidOut (by kernel_rfl) (of_decide_eq_true (by kernel_rfl)) k1 bel lt1) trodAll_mk0)), rfl, bel.frame _, fun h => by cases h⟩

theorem over : Rows.judgeApartRow.holds Try.pinned (OpenSpec.ofChange Rows.judgeApartSpec) :=
  OpenClaim.holds_of_wide 6 Try.f6 rfl rfl rfl rfl rfl rfl rfl ⟨rfl, rfl, rfl, rfl, rfl⟩ rfl rfl rfl rfl rfl (by kernel_rfl) Try.func6 (by kernel_rfl)
    (of_decide_eq_true (by kernel_rfl)) (by unfold Func.isWrapper; first | (rw [if_pos (by decide +kernel)]; kernel_rfl) | (rw [if_neg (by decide +kernel)]; exact ⟨rfl, rfl⟩))
    (fun os started H enc _ => lifted os started H enc)

theorem proved : Rows.JudgeApartSaid := over
#print axioms proved
end Go.Proofs.Ytbladkopbkkamaa.judgeApart
