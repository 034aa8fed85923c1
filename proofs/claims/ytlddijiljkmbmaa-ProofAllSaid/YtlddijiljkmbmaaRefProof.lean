/- The walks of the document's proof (curfewref19.Proof), each as a contract over the same plain state. -/
import Derived.Test.YtlddijiljkmbmaaProof
namespace Go.Proofs.Ytlddijiljkmbmaa
open Go.RowKit
attribute [local go_sem ↓] Go.wp_at_zero Go.wp_at_succ
set_option linter.unusedVariables false
set_option linter.unusedSimpArgs false

def IsRf (w : World) (g : Nat) (F : Nat → Prop) (s : Pf) : Prop :=
  ∃ A c, Cells w g [.slice A s.l.length c, .int .i64 s.num, .int .i64 s.bn, .int .i64 s.bc, .int .i64 s.cm] ∧ Own w 2 A s.l.length c (flat s.l) ∧ blk A ≠ some g ∧ s.l.length ≤ 64 ∧ F g ∧ ∀ k, blk A = some k → F k
theorem IsRf.mod {w w' : World} {g : Nat} {F G : Nat → Prop} {s : Pf} (h : IsRf w g F s) (hm : Mod G w w') (hF : ∀ k, F k → ¬ G k) : IsRf w' g F s := by
  obtain ⟨A, c, h1, h2, h3, h4, h5, h6⟩ := h
  exact ⟨A, c, h1.mod hm (hF _ h5), h2.mod hm fun k e => hF _ (h6 k e), h3, h4, h5, h6⟩
theorem IsRf.trim {w : World} {g : Nat} {F : Nat → Prop} {s : Pf} (h : IsRf w g F s) : IsRf w g (fun k => F k ∧ k < w.heap.size) s := by
  obtain ⟨A, c, h1, h2, h3, h4, h5, h6⟩ := h
  exact ⟨A, c, h1, h2, h3, h4, ⟨h5, h1.2.2⟩, fun k e => ⟨h6 k e, h2.lt e⟩⟩
theorem IsPf.trim {w : World} {g : Nat} {F : Nat → Prop} {s : Pf} (h : IsPf w g F s) : IsPf w g (fun k => F k ∧ k < w.heap.size) s := by
  obtain ⟨A, c, h1, h2, h3, h4, h5, h6⟩ := h
  exact ⟨A, c, h1, h2, h3, h4, ⟨h5, h1.2.2⟩, fun k e => ⟨h6 k e, h2.lt e⟩⟩

theorem info_rq : (Try.prog.info? 47).map (fun i => (i.zero, i.size, i.bytes)) = some (some (.agg #[.int .i64 0, .int .i64 0]), 2, 16) := by kernel_rfl

/-- behind Ask's append -/
def RAskMid (w : World) (g : Nat) (F : Nat → Prop) (s : Pf) (clock : Int) (wc : World) : Prop :=
  ∃ A c, Cells wc g [.slice A (s.l.length + 1) c, .int .i64 (s.num + 1), .int .i64 s.bn, .int .i64 s.bc, .int .i64 s.cm] ∧ Own wc 2 A (s.l.length + 1) c (flat (s.l ++ [(s.num + 1, clock)])) ∧ blk A ≠ some g ∧ Mod F w wc ∧
    ∀ k, blk A = some k → F k ∨ w.heap.size ≤ k
theorem raskMid_mk {w W1 W' w2 : World} {g : Nat} {F : Nat → Prop} {s : Pf} {clock : Int} {A A' : Option Addr} {c' : Nat} (hM : Mod F w W1) (hsz : W1.heap.size = w.heap.size) (hFg : F g) (hFA : ∀ k, blk A = some k → F k) (hne : blk A ≠ some g) (hgl : g < w.heap.size)
    (hW' : ∃ o, W' = (W1.alloc o).drew) (ho2 : Own w2 2 A' (s.l.length + 1) c' (flat s.l ++ [.int .i64 (s.num + 1), .int .i64 clock])) (hg2 : W'.grownBy w2 (blk A)) (hb2 : blk A' = blk A ∨ ∃ k, blk A' = some k ∧ W'.heap.size ≤ k) {c : Nat}
    (hC2 : Cells w2 g [.slice A s.l.length c, .int .i64 (s.num + 1), .int .i64 s.bn, .int .i64 s.bc, .int .i64 s.cm]) :
    RAskMid w g F s clock (w2.setCell ⟨g, 0, none⟩ (.slice A' (s.l.length + 1) c')) := by
  obtain ⟨o, rfl⟩ := hW'
  have hne' : blk A' ≠ some g := by
    rcases hb2 with e | ⟨k, e, hk⟩
    · rw [e]; exact hne
    · rw [e]; intro h; injection h with h; simp at hk; omega
  refine ⟨A', c', hC2.set_ 0 _, ?_, hne', ?_, fun k hk => ?_⟩
  · rw [flat_app]; exact ho2.far (p := ⟨g, 0, none⟩) hne' _
  · exact (((hM.alloc o).drew).grown hg2 fun k hk => .inl (hFA k hk)).setCell (.inl hFg) _
  · rcases hb2 with e | ⟨q, e, hq⟩
    · exact .inl (hFA k (by rw [← e]; exact hk))
    · rw [e] at hk; injection hk with hk; subst hk; simp at hq; right; omega

theorem rask_close {w w' : World} {g : Nat} {F : Nat → Prop} {s : Pf} {clock : Int} {A2 A3 : Option Addr} {c3 n3 : Nat} (k : Nat) (hk : k = s.l.length + 1 - 64) (h64 : s.l.length ≤ 64) (hFg : F g)
    (hC2 : Cells w' g [.slice A3 n3 c3, .int .i64 (s.num + 1), .int .i64 s.bn, .int .i64 s.bc, .int .i64 s.cm]) (hO3 : Own w' 2 A3 n3 c3 ((flat (s.l ++ [(s.num + 1, clock)])).drop (k * 2))) (hn3 : n3 = s.l.length + 1 - k) (hb : blk A3 = blk A2) (hne2 : blk A2 ≠ some g)
    (hF2 : ∀ k, blk A2 = some k → F k ∨ w.heap.size ≤ k) :
    ∃ F', IsRf w' g F' (s.ask clock) ∧ ∀ k, F' k → F k ∨ w.heap.size ≤ k := by
  subst hk hn3
  have hl : (s.ask clock).l.length = s.l.length + 1 - (s.l.length + 1 - 64) := by simp [Pf.ask]
  refine ⟨fun q => q = g ∨ blk A3 = some q, ⟨A3, c3, ?_, ?_, by rw [hb]; exact hne2, by rw [hl]; omega, .inl rfl, fun q h => .inr h⟩, ?_⟩
  · rw [hl]; exact hC2
  · rw [flat_drop] at hO3
    rw [hl]
    exact hO3
  · rintro q (rfl | h)
    · exact .inl hFg
    · exact hF2 q (by rw [← hb]; exact h)

set_option maxHeartbeats 1600000 in
theorem rask_any (g : Nat) (F : Nat → Prop) (s : Pf) (clock : Int) (w : World) (hp : IsRf w g F s) (h0 : 0 ≤ s.num) (h1 : s.num ≤ 4398046511104) :
    Calls Try.prog 14 #[.pointer (some ⟨g, 0, none⟩), .int .i64 clock] w fun e w' =>
      e = .returned (.int .i64 (s.num + 1)) ∧ ∃ F', IsRf w' g F' (s.ask clock) ∧ Mod F w w' ∧ ∀ k, F' k → F k ∨ w.heap.size ≤ k := by
  obtain ⟨A, c, hC, hO, hne, h64, hFg, hFA⟩ := hp
  obtain ⟨i0, hi0, hz0, hz1, hz2⟩ := info_parts info_rq
  have c0 : w.cell? ⟨g, 0, none⟩ = some (.slice A s.l.length c) := hC.1 0 _ rfl
  have c1 : w.cell? ⟨g, 1, none⟩ = some (.int .i64 s.num) := hC.1 1 _ rfl
  have f0 := hC.2.1 0
  have f1 := hC.2.1 1
  have hC1 := Lib.hid (hC.set_ 1 (.int .i64 (s.num + 1)))
  have hO1 := Lib.hid (hO.far (p := ⟨g, 1, none⟩) hne (.int .i64 (s.num + 1)))
  have hgl := hC.2.2
  have HN := Lib.hid hne
  have HI := Lib.hid hi0
  have HZ0 := Lib.hid hz0
  have HZ1 := Lib.hid hz1
  have HZ2 := Lib.hid hz2
  clear hC hO hne hi0 hz0 hz1 hz2
  go_enter Try.func14, Try.ntmps14
  go_wp2_with fail
  clear c0 c1 f0 f1
  have hsz : (w.setCell ⟨g, 1, none⟩ (.int .i64 (s.num + 1))).heap.size = w.heap.size := by simp [World.setCell]
  have hM1 := Lib.hid (show Mod F w (w.setCell ⟨g, 1, none⟩ (.int .i64 (s.num + 1))) from (Mod.refl F w).setCell (.inl hFg) _)
  generalize hW1 : w.setCell ⟨g, 1, none⟩ (.int .i64 (s.num + 1)) = W1 at *
  clear hW1
  have c0 : W1.cell? ⟨g, 1, none⟩ = some (.int .i64 (s.num + 1)) := hC1.out.1 1 _ rfl
  have c1 : W1.cell? ⟨g, 0, none⟩ = some (.slice A s.l.length c) := hC1.out.1 0 _ rfl
  have c0a : ∀ o, (W1.alloc o).cell? ⟨g, 1, none⟩ = some (.int .i64 (s.num + 1)) := fun o => (hC1.out.alloc o).1 1 _ rfl
  have c1a : ∀ o, (W1.alloc o).cell? ⟨g, 0, none⟩ = some (.slice A s.l.length c) := fun o => (hC1.out.alloc o).1 0 _ rfl
  have f0 := hC1.out.2.1 0
  have f1 := hC1.out.2.1 1
  have hg1 := hC1.out.2.2
  have hne0 : g ≠ W1.heap.size := by omega
  have HSZ := Lib.hid hsz
  clear hsz
  have hbig : s.l.length + 1 ≤ 65 := by omega
  go_cut [] (fun wc => RAskMid w g F s clock wc)
  case first =>
    go_region_law
      ((refine step_append_Own _ (by rfl) _ _ _ (by rfl) 47 i0 _ 2 16 Try.underlying33 HI.out HZ0.out HZ1.out HZ2.out (by rfl) (by decide) A s.l.length c (flat s.l) (by rfl) (by exact hO1.out.alloc _) ⟨W1.heap.size, 0, none⟩ 1 1 [.int .i64 (s.num + 1), .int .i64 clock] (by rfl) (by rfl) (by exact World.news_of_block (heap_alloc_new _ _)) (by simp [Value.oneCell']) (by decide) (by unfold maxLen; omega) (by omega) ?_; intro A' c' w2 ho2 hg2 hb2; have hC2 : Cells w2 g [.slice A s.l.length c, .int .i64 (s.num + 1), .int .i64 s.bn, .int .i64 s.bc, .int .i64 s.cm] := Cells.grown (by first | exact (hC1.out.alloc _).drew | exact hC1.out.drew.alloc _) hg2 HN.out; have k0 : w2.cell? ⟨g, 1, none⟩ = some (.int .i64 (s.num + 1)) := hC2.1 1 _ rfl; have k1 : w2.cell? ⟨g, 0, none⟩ = some (.slice A s.l.length c) := hC2.1 0 _ rfl; have q1 := hC2.2.1 0))
    all_goals
      go_wp2_with fail
      go_meet
      exact raskMid_mk hM1.out HSZ.out hFg hFA HN.out hgl (by first | exact ⟨_, rfl⟩) ho2 hg2 hb2 hC2
  case rest =>
    clear c0 c1 c0a c1a f0 f1 hg1 hne0 hC1 hO1 HN HI HZ0 HZ1 HZ2 hM1 HSZ
    obtain ⟨A2, c2, hC2, hO2, hne2, hM2, hF2⟩ := hcut
    have d0 : wc.cell? ⟨g, 1, none⟩ = some (.int .i64 (s.num + 1)) := hC2.1 1 _ rfl
    have d1 : wc.cell? ⟨g, 0, none⟩ = some (.slice A2 (s.l.length + 1) c2) := hC2.1 0 _ rfl
    have e1 := hC2.2.1 0
    have hcap := hO2.2.1
    have hmx := hO2.2.2.1
    have HC2 := Lib.hid hC2
    have HO2 := Lib.hid hO2
    have HN2 := Lib.hid hne2
    have HM2 := Lib.hid hM2
    clear hC2 hO2 hne2 hM2
    rcases Nat.lt_or_ge s.l.length 64 with hlt | hge
    · go_wp2_with fail
      go_ret
      obtain ⟨F', q1, q2⟩ := rask_close (w := w) (clock := clock) 0 (by omega) h64 hFg HC2.out (by simpa using HO2.out) rfl rfl HN2.out hF2
      exact ⟨rfl, F', q1, HM2.out, q2⟩
    · obtain ⟨g2, o2, rfl, hg2⟩ := HO2.out.form (by omega)
      have HO3 := Lib.hid (show Own wc 2 (some ⟨g2, o2 + 2, none⟩) s.l.length (c2 - 1) ((flat (s.l ++ [(s.num + 1, clock)])).drop (1 * 2)) by
        have := HO2.out.cut (k := 1) (by omega)
        rw [if_neg (by omega)] at this
        simpa [Addr.add_lit] using this)
      have hw3 : (1 : Int) ≤ (s.l.length : Int) + 1 := by omega
      go_wp2_with fail
      go_ret
      obtain ⟨F', q1, q2⟩ := rask_close (w := w) (clock := clock) (A2 := some ⟨g2, o2, none⟩) 1 (by omega) h64 hFg (HC2.out.set_ 0 (.slice (some ⟨g2, o2 + 2, none⟩) s.l.length (c2 - 1))) (HO3.out.far (p := ⟨g, 0, none⟩) HN2.out _) rfl rfl HN2.out hF2
      exact ⟨rfl, F', q1, HM2.out.setCell (.inl hFg) _, q2⟩

/-- what holds of every proof -/
def Pf.Inv (s : Pf) : Prop := (s.has = true → 1 ≤ s.bn) ∧ (s.has = false → s.bn = 0 ∧ s.bc = 0 ∧ s.cm = 0) ∧ ∀ q ∈ s.l, 1 ≤ q.1

set_option maxHeartbeats 1600000 in
theorem rget_low (g : Nat) (F : Nat → Prop) (s : Pf) (num commit : Int) (w : World) (hp : IsRf w g F s) (hle : num ≤ s.bn) :
    Calls Try.prog 15 #[.pointer (some ⟨g, 0, none⟩), .int .i64 num, .int .i64 commit] w fun e w' => e = .returned (.bool false) ∧ w = w' := by
  obtain ⟨A, c, hC, hO, hne, h64, hFg, hFA⟩ := hp
  have c0 : w.cell? ⟨g, 0, none⟩ = some (.slice A s.l.length c) := hC.1 0 _ rfl
  have c2 : w.cell? ⟨g, 2, none⟩ = some (.int .i64 s.bn) := hC.1 2 _ rfl
  have HO := Lib.hid hO
  clear hC hO hne hFA
  go_enter Try.func15, Try.ntmps15
  go_wp2_with fail
  go_loop [7] (fun i => ∃ k : Nat, k ≤ s.l.length ∧ i = .int .i64 k) (fun i => s.l.length - (intOf i).toNat)
  case atStart => exact ⟨0, by omega, rfl⟩
  case round =>
    obtain ⟨k, hk, rfl⟩ := hrel
    by_cases hlt : k < s.l.length
    · obtain ⟨g2, o2, rfl, hg2, q1⟩ := HO.out.at_ (flat_num s.l k hlt)
      generalize s.l[k].1 = x at *
      by_cases hkn : x = num
      · have he : (x == num) = true := by simpa using hkn
        clear hkn
        go_wp2_with fail
        go_round
        case rel => exact ⟨k + 1, by omega, by go_num⟩
        case measure => simp [intOf]; omega
      · have he : (x == num) = false := by simpa using hkn
        clear hkn
        go_wp2_with fail
        go_round
        case rel => exact ⟨k + 1, by omega, by go_num⟩
        case measure => simp [intOf]; omega
    · go_wp2_with fail
      go_ret
      exact ⟨rfl, rfl⟩

set_option maxHeartbeats 1600000 in
theorem rget_high (g : Nat) (F : Nat → Prop) (s : Pf) (num commit : Int) (w : World) (hp : IsRf w g F s) (hlo : s.bn < num) :
    Calls Try.prog 15 #[.pointer (some ⟨g, 0, none⟩), .int .i64 num, .int .i64 commit] w fun e w' =>
      e = .returned (.bool (s.get num commit).2) ∧ IsRf w' g F (s.get num commit).1 ∧ Mod F w w' := by
  have HP := Lib.hid hp
  obtain ⟨A, c, hC, hO, hne, h64, hFg, hFA⟩ := hp
  have hold : ¬ (s.has = true ∧ num ≤ s.bn) := by omega
  have HOld := Lib.hid hold
  have c0 : w.cell? ⟨g, 0, none⟩ = some (.slice A s.l.length c) := hC.1 0 _ rfl
  have c2 : w.cell? ⟨g, 2, none⟩ = some (.int .i64 s.bn) := hC.1 2 _ rfl
  have c3 : w.cell? ⟨g, 3, none⟩ = some (.int .i64 s.bc) := hC.1 3 _ rfl
  have c4 : w.cell? ⟨g, 4, none⟩ = some (.int .i64 s.cm) := hC.1 4 _ rfl
  have f2 := hC.2.1 2
  have f3 := hC.2.1 3
  have f4 := hC.2.1 4
  have HC := Lib.hid hC
  have HO := Lib.hid hO
  have HN := Lib.hid hne
  clear hC hO hne hold
  go_enter Try.func15, Try.ntmps15
  go_wp2_with fail
  go_loop [7] (fun i => ∃ k : Nat, k ≤ s.l.length ∧ i = .int .i64 k ∧ Hid (∀ j (hj : j < s.l.length), j < k → s.l[j].1 ≠ num)) (fun i => s.l.length - (intOf i).toNat)
  case atStart => exact ⟨0, by omega, rfl, Lib.hid fun j _ hj => absurd hj (by omega)⟩
  case round =>
    obtain ⟨k, hk, rfl, hnf⟩ := hrel
    by_cases hlt : k < s.l.length
    · obtain ⟨g2, o2, rfl, hg2, q1⟩ := HO.out.at_ (flat_num s.l k hlt)
      obtain ⟨_, _, e2, _, q2⟩ := HO.out.at_ (flat_clock s.l k hlt)
      injection e2 with e2
      injection e2 with e2 e3
      subst e2 e3
      rw [← Nat.add_assoc] at q2
      by_cases hkn : s.l[k].1 = num
      · have he : (s.l[k].1 == num) = true := by simpa using hkn
        have hs : s.get num commit = ({ s with has := true, bn := num, bc := s.l[k].2, cm := commit }, true) := by
          unfold Pf.get; rw [if_neg HOld.out, find_at hlt hkn hnf.out]; simp [hkn]
        have HS := Lib.hid hs
        have hng : g2 ≠ g := fun e => HN.out (by rw [← e]; rfl)
        clear hkn hs
        generalize s.l[k].1 = x at *
        generalize s.l[k].2 = y at *
        go_wp2_with fail
        go_ret
        rw [HS.out]
        refine ⟨rfl, ⟨some ⟨g2, o2, none⟩, c, ((HC.out.set_ 2 _).set_ 3 _).set_ 4 _, ?_, HN.out, h64, hFg, hFA⟩, ?_⟩
        · exact ((HO.out.far (p := ⟨g, 2, none⟩) HN.out _).far (p := ⟨g, 3, none⟩) HN.out _).far (p := ⟨g, 4, none⟩) HN.out _
        · exact (((Mod.refl F w).setCell (.inl hFg) _).setCell (.inl hFg) _).setCell (.inl hFg) _
      · have he : (s.l[k].1 == num) = false := by simpa using hkn
        have HK := Lib.hid hkn
        clear hkn
        generalize hx : s.l[k].1 = x at *
        have HX := Lib.hid hx
        clear hx
        go_wp2_with fail
        go_round
        case rel =>
          refine ⟨k + 1, by omega, by go_num, Lib.hid fun j hj hjk => ?_⟩
          by_cases e : j = k
          · subst e; rw [HX.out]; exact HK.out
          · exact hnf.out j hj (by omega)
        case measure => simp [intOf]; omega
    · go_wp2_with fail
      go_ret
      have hn := find_none (l := s.l) (num := num) fun j hj => hnf.out j hj (by omega)
      have hs : s.get num commit = (s, false) := by unfold Pf.get; rw [if_neg HOld.out, hn]
      rw [hs]
      exact ⟨rfl, HP.out, Mod.refl _ _⟩

theorem rget_any (g : Nat) (F : Nat → Prop) (s : Pf) (hi : s.Inv) (num commit : Int) (w : World) (hp : IsRf w g F s) :
    Calls Try.prog 15 #[.pointer (some ⟨g, 0, none⟩), .int .i64 num, .int .i64 commit] w fun e w' =>
      e = .returned (.bool (s.get num commit).2) ∧ IsRf w' g F (s.get num commit).1 ∧ Mod F w w' := by
  rcases Int.lt_or_le s.bn num with h | h
  · exact rget_high g F s num commit w hp h
  · have hs : s.get num commit = (s, false) := by
      unfold Pf.get
      cases hh : s.has
      · have hb := (hi.2.1 hh).1
        have hf : s.l.find? (fun q => q.1 == num) = none := by
          rw [List.find?_eq_none]
          intro q hq
          have := hi.2.2 q hq
          simp; omega
        rw [if_neg (by simp), hf]
      · rw [if_pos ⟨rfl, h⟩]
    rw [hs]
    exact (rget_low g F s num commit w hp h).mono fun e w' ⟨h1, h2⟩ => by subst h2; exact ⟨h1, hp, Mod.refl _ _⟩

theorem rleft_any (g : Nat) (F : Nat → Prop) (s : Pf) (hi : s.Inv) (clock commit : Int) (w : World) (hp : IsRf w g F s) (hc0 : 0 ≤ clock) (hc1 : clock ≤ 4398046511104) (hb0 : 0 ≤ s.bc) (hb1 : s.bc ≤ 4398046511104) :
    Calls Try.prog 19 #[.pointer (some ⟨g, 0, none⟩), .int .i64 clock, .int .i64 commit] w fun e w' => e = .returned (.int .i64 (s.left clock commit)) ∧ w = w' := by
  obtain ⟨A, c, hC, -⟩ := hp
  have c2 : w.cell? ⟨g, 2, none⟩ = some (.int .i64 s.bn) := hC.1 2 _ rfl
  have c3 : w.cell? ⟨g, 3, none⟩ = some (.int .i64 s.bc) := hC.1 3 _ rfl
  have c4 : w.cell? ⟨g, 4, none⟩ = some (.int .i64 s.cm) := hC.1 4 _ rfl
  clear hC
  obtain ⟨i1, i2, -⟩ := hi
  unfold Pf.left
  generalize s.bc = b at *
  generalize s.cm = m at *
  generalize s.bn = n at *
  generalize s.has = h at *
  cases h
  · obtain ⟨rfl, -, -⟩ := i2 rfl
    clear i1 i2
    rw [if_pos (.inl rfl)]
    go_enter Try.func19, Try.ntmps19
    go_wp2
    go_ret
    exact ⟨rfl, rfl⟩
  · have hn := i1 rfl
    clear i1 i2
    have hn0 : (n == 0) = false := by simp; omega
    by_cases h1 : commit < m
    · rw [if_pos (.inr (.inl h1))]
      go_enter Try.func19, Try.ntmps19
      go_wp2
      go_ret
      exact ⟨rfl, rfl⟩
    · by_cases h2 : clock < b
      · rw [if_pos (.inr (.inr h2))]
        go_enter Try.func19, Try.ntmps19
        go_wp2
        go_ret
        exact ⟨rfl, rfl⟩
      · rw [if_neg (by rintro (h | h | h) <;> simp_all)]
        by_cases h3 : 12 ≤ clock - b
        · rw [if_pos h3]
          go_enter Try.func19, Try.ntmps19
          go_wp2
          go_ret
          exact ⟨rfl, rfl⟩
        · rw [if_neg h3]
          have h3' : decide (12 ≤ clock - b) = false := by simpa using h3
          go_enter Try.func19, Try.ntmps19
          go_wp2
          go_ret
          exact ⟨rfl, rfl⟩

theorem rdrop_any (g : Nat) (F : Nat → Prop) (s : Pf) (w : World) (hp : IsRf w g F s) :
    Calls Try.prog 17 #[.pointer (some ⟨g, 0, none⟩)] w fun e w' => e = .returned (.tuple #[]) ∧ IsRf w' g F s.drop ∧ Mod F w w' := by
  obtain ⟨A, c, hC, hO, hne, h64, hFg, hFA⟩ := hp
  have c0 : w.cell? ⟨g, 0, none⟩ = some (.slice A s.l.length c) := hC.1 0 _ rfl
  have c2 : w.cell? ⟨g, 2, none⟩ = some (.int .i64 s.bn) := hC.1 2 _ rfl
  have c3 : w.cell? ⟨g, 3, none⟩ = some (.int .i64 s.bc) := hC.1 3 _ rfl
  have c4 : w.cell? ⟨g, 4, none⟩ = some (.int .i64 s.cm) := hC.1 4 _ rfl
  have f0 := hC.2.1 0
  have f2 := hC.2.1 2
  have f3 := hC.2.1 3
  have f4 := hC.2.1 4
  have HC := Lib.hid hC
  clear hC hO hne
  go_enter Try.func17, Try.ntmps17
  go_wp2
  go_end0
  refine ⟨rfl, ⟨none, 0, ((((HC.out.set_ 0 (.slice none 0 0)).set_ 2 (.int .i64 0)).set_ 3 (.int .i64 0)).set_ 4 (.int .i64 0)), Own.nil _ _, by simp [blk], by simp [Pf.drop], hFg, by simp [blk]⟩, ?_⟩
  exact ((((Mod.refl F w).setCell (.inl hFg) _).setCell (.inl hFg) _).setCell (.inl hFg) _).setCell (.inl hFg) _
end Go.Proofs.Ytlddijiljkmbmaa
