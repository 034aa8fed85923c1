/- Proved: curfewlaw6.OnceAll answers true for every list and every number of asks, and leaves what came in as it was. No condition. -/
import Derived.Test.YtgioelaagedlbaaOnceH
import Derived.Test.YtgioelaagedlbaaOnceB
namespace Go.Proofs.Ytgioelaagedlbaa.onceAll
open Go.ChangeShapes Go.WideShapes Go.ChangeAt Go.RowKit
set_option linter.unusedVariables false
set_option linter.unusedSimpArgs false
attribute [local go_sem ↓] Go.wp_at_zero Go.wp_at_succ

theorem Own.set_ {w : World} {size g o n c : Nat} {xs : List Value} (h : Own w size (some ⟨g, o, none⟩) n c xs) {j : Nat} (hj : j < n * size) (u : Value) : Own (w.setCell ⟨g, o + j, none⟩ u) size (some ⟨g, o, none⟩) n c (xs.set j u) := by
  obtain ⟨h1, h2, h3, h4⟩ := h
  rcases h4 with ⟨h5, _⟩ | ⟨g', o', e, hl, hr, hx⟩
  · cases h5
  · injection e with e
    injection e with e1 e2
    subst e1 e2
    have hle : n * size ≤ c * size := Nat.mul_le_mul_right _ h2
    refine ⟨by rw [List.length_set]; exact h1, h2, h3, .inr ⟨g, o, rfl, by simp [World.setCell]; exact hl, fun i hi => ⟨?_, by rw [World.frozen?_setCell]; exact (hr i hi).2⟩, fun i v hv => ?_⟩⟩
    · by_cases e : i = j
      · subst e
        obtain ⟨y, hy⟩ := Option.isSome_iff_exists.1 (hr i hi).1
        rw [World.cell?_setCell_same (h := hy)]; rfl
      · rw [World.cell?_setCell_other _ _ _ _ (by intro h; injection h with _ h; omega)]
        exact (hr i hi).1
    · by_cases e : i = j
      · subst e
        obtain ⟨y, hy⟩ := Option.isSome_iff_exists.1 (hr i (by omega)).1
        rw [List.getElem?_set_self (by rw [h1]; exact hj)] at hv
        injection hv with hv
        subst hv
        exact World.cell?_setCell_same (h := hy) ..
      · rw [List.getElem?_set_ne (fun h => e h.symm)] at hv
        rw [World.cell?_setCell_other _ _ _ _ (by intro h; injection h with _ h; omega)]
        exact hx i v hv
theorem slice_cap {H : Type} {enc : TypeId × Value → H} {P : Program} {w : World} {base : Nat} {spare : Nat → Bool} {held : Bool} {t e : TypeId} {a : Option Addr} {len cap : Nat} {d : DataW H} {p : List MemPlace}
    (ht : P.underlying t = some (.slice e)) (h : DataW.Trod enc P w base spare held t (.slice a len cap) d p) : len ≤ cap := by
  obtain ⟨fuel, hf⟩ := h
  rcases Go.Deep.open_slice ht hf with ⟨hcs, _⟩ | ⟨x, l, c, m, n, D, Pl, hcs, hb, hl, hm, hmm, hx, hi⟩
  · simp [Value.cells] at hcs
    obtain ⟨rfl, rfl, rfl⟩ := hcs
    exact Nat.le_refl _
  · simp [Value.cells] at hcs
    obtain ⟨rfl, rfl, rfl⟩ := hcs
    exact hl
theorem ints_sl {w : World} {a : Option Addr} {len : Nat} {z : Nat → Int} (h : IntsAt .i64 w a len z) {L : Nat} (hL : L ≤ len) : Sl w 1 a L (ic ((List.range L).map z)) := by
  refine ⟨by simp [ic], Nat.le_trans hL h.1, ?_⟩
  rcases Nat.eq_zero_or_pos L with h0 | h0
  · exact .inl h0
  · obtain ⟨b, o, e, hb, _, _⟩ := h.2 0 (by omega)
    refine .inr ⟨b, o, e, hb, fun j u hu => ?_⟩
    have hj : j < L := by
      have := (List.getElem?_eq_some_iff.1 hu).1
      simpa [ic] using this
    obtain ⟨b', o', e', _, hc, _⟩ := h.2 j (by omega)
    rw [e] at e'
    injection e' with e'
    injection e' with e1 e2
    subst e1 e2
    rw [ic_at _ (by simpa using hj)] at hu
    injection hu with hu
    subst hu
    simpa using hc

theorem Sl.mod0 {w w' : World} {C n : Nat} {A : Option Addr} {xs : List Value} {F : Nat → Prop} (h : Sl w C A n xs) (hm : Mod F w w') (hF : 0 < n → ∀ g, blk A = some g → ¬ F g) : Sl w' C A n xs := by
  rcases Nat.eq_zero_or_pos n with h0 | h0
  · exact ⟨h.1, h.2.1, .inl h0⟩
  · exact h.mod hm (hF h0)
theorem mk_all (h hl : Nat) (a : Option Addr) (cap : Nat) (xs : List Int) (hx : xs.length ≤ 1000) (w : World) (hc : Cells w h [.int .i64 0]) (hcl : Cells w hl [.slice a xs.length cap]) (hne : h ≠ hl) (hsl : Sl w 1 a xs.length (ic xs)) (hab : 0 < xs.length → ∀ q, blk a = some q → q ≠ h) :
    Calls Try.prog 10 #[.pointer (some ⟨h, 0, none⟩), .pointer (some ⟨hl, 0, none⟩)] w fun e w' => ∃ A c, e = .returned (.slice A xs.length c) ∧ Own w' 1 A xs.length c (ic xs) ∧ Mod (fun q => q = h) w w' ∧ Cells w' h [.int .i64 1] := by
  obtain ⟨i0, hi0, hz0, hz1, hz2⟩ := info_parts info_i64
  have HI := Lib.hid hi0
  have HZ0 := Lib.hid hz0
  have HZ1 := Lib.hid hz1
  have HZ2 := Lib.hid hz2
  have one := Lib.hid (ic_one xs)
  have c0 : w.cell? ⟨h, 0, none⟩ = some (.int .i64 0) := hc.1 0 _ rfl
  have f0 := hc.2.1 0
  have HC := Lib.hid (hc.set_ 0 (.int .i64 1))
  have hm := (Mod.refl (fun q => q = h) w).setCell (p := ⟨h, 0, none⟩) (.inl rfl) (.int .i64 1)
  have cl : (w.setCell ⟨h, 0, none⟩ (.int .i64 1)).cell? ⟨hl, 0, none⟩ = some (.slice a xs.length cap) := (hcl.mod hm fun e => hne e.symm).1 0 _ rfl
  have HSL := Lib.hid (Sl.mod0 hsl hm hab)
  have HM := Lib.hid hm
  clear hi0 hz0 hz1 hz2 hc hcl hm hsl
  go_enter Try.func10, Try.ntmps10
  go_wp2_with (at_builtin; refine wpList_append_Sl _ rfl _ _ _ rfl 2 i0 _ 1 8 Try.underlying22 HI.out HZ0.out HZ1.out HZ2.out rfl (by decide) none 0 0 [] rfl (Own.nil _ _) a xs.length cap _ rfl HSL.out one.out (by unfold maxLen; omega) (by omega) ?_; intro A2 c2 w2 ho2 hg2 hb2)
  have hr := Lib.hid (show ∃ A c, Ending.returned (.slice A2 xs.length c2) = .returned (.slice A xs.length c) ∧ Own w2 1 A xs.length c (ic xs) ∧ Mod (fun q => q = h) w w2 ∧ Cells w2 h [.int .i64 1] by
    rw [Nat.zero_add, List.nil_append] at ho2
    exact ⟨A2, c2, rfl, ho2, HM.out.grown hg2 (by simp [blk]), HC.out.grown hg2 (by simp [blk])⟩)
  clear ho2 hg2 hb2
  go_wp2_with fail
  go_ret
  simpa using hr.out
theorem get_all (g h hl : Nat) (a : Option Addr) (cap : Nat) (xs : List Int) (hx : xs.length ≤ 1000) (w : World) (hC : Cells w g (cold (.func (.func 10) #[] #[.pointer (some ⟨h, 0, none⟩), .pointer (some ⟨hl, 0, none⟩)]))) (hH : Cells w h [.int .i64 0]) (hL : Cells w hl [.slice a xs.length cap])
    (hgh : h ≠ g) (hgl : hl ≠ g) (hne : h ≠ hl) (hsl : Sl w 1 a xs.length (ic xs)) (hab : 0 < xs.length → ∀ q, blk a = some q → q ≠ h ∧ q ≠ g) :
    Calls Try.prog 12 #[.pointer (some ⟨g, 0, none⟩)] w (Got w g (.func (.func 10) #[] #[.pointer (some ⟨h, 0, none⟩), .pointer (some ⟨hl, 0, none⟩)]) xs (fun q => q = h) (fun W => Cells W h [.int .i64 1])) := by
  have hg : g < w.heap.size := hC.2.2
  have hh : h < w.heap.size := hH.2.2
  refine get_first g _ (.slice none 0 0) w hC xs hx (fun q => q = h) (fun e => hgh e.symm) (fun q e => by subst e; exact hh) (fun W => Cells W h [.int .i64 1]) (fun W W' h1 hm => h1.mod hm hgh) fun pl W hpl hp hW hM => ?_
  refine get1_l g pl ⟨h, 0, none⟩ ⟨hl, 0, none⟩ false 1 (.slice none 0 0) (by omega) _ W hp hW xs hx (fun q => q = h) (fun e => hgh e.symm) (fun e => by have e2 : pl.block = h := e; omega) (hM.mono fun k _ e => .inl e) (by simp; omega) _ (fun W W' h1 hm => h1.mod hm hgh) fun W2 hM2 => ?_
  exact mk_all h hl a cap xs hx W2 (((hH.alloc _).mod hM hgh).mod hM2 hgh) (((hL.alloc _).mod hM hgl).mod hM2 hgl) hne (Sl.mod0 (Sl.mod0 (hsl.none_ ((Mod.refl _ _).alloc _)) hM fun hp q e => (hab hp q e).2) hM2 fun hp q e => (hab hp q e).2) fun hp q e => (hab hp q e).1

set_option maxRecDepth 100000 in
set_option maxHeartbeats 6400000 in
theorem walk (a0 : Option Addr) (len0 cap0 : Nat) (z0 : Nat → Int) (a1 : Int) (w : World) (w0 : IntsAt .i64 w a0 len0 z0) (w1 : (Lit.int .i64 a1).wf = true) (c0 : len0 ≤ cap0) :
    Calls Try.prog 3 #[.slice a0 len0 cap0, .int .i64 a1] w fun e w' => e = .returned (.bool true) ∧ Below w.heap.size w w' := by
  have hmf : ∀ (fn : Fn) (first cap : Array Value) (w : World), (Instr.makeFunc fn first cap).run Try.prog w = .ok (.func fn first cap) w := fun _ _ _ _ => rfl
  have hnot : ∀ (x : Bool) (w : World), (Op.unary .not (.bool x)).run Try.prog w = .ok (.bool (!x)) w := fun _ _ => rfl
  have HZ := Lib.hid w0
  have hab0 := Lib.hid (show ∀ q, blk a0 = some q → 0 < len0 → q < w.heap.size from fun q e hp => by
    obtain ⟨b, o, e', hb, _⟩ := w0.2 0 hp
    rw [e'] at e; injection e with e; subst e; exact hb)
  clear w0 w1
  go_enter Try.func3, Try.ntmps3
  go_wp2_with fail
  refine (begun_any _).mono ?_
  rintro e wb ⟨rfl, hb⟩
  have hL0 := Lib.hid ((Cells.new w #[.slice a0 len0 cap0] 22).mod (Mod.of_below hb) (by simp))
  have BW := Lib.hid (((Below.refl w.heap.size w).alloc (Nat.le_refl _) (.cells #[.slice a0 len0 cap0] 22)).trans (hb.mono (by simp)))
  clear hb
  have cl0 : wb.cell? ⟨w.heap.size, 0, none⟩ = some (.slice a0 len0 cap0) := hL0.out.1 0 _ rfl
  have fl0 := hL0.out.2.1 0
  go_upto_if 16 with (fail)
  go_cut [] (fun wx => ∃ L, L ≤ len0 ∧ L ≤ 40 ∧ Cells wx w.heap.size [.slice a0 L cap0] ∧ Mod (fun q => q = w.heap.size) wb wx)
  case first =>
    by_cases hlt : 40 < len0
    · go_wp2_with fail
      go_meet
      exact ⟨40, by omega, by omega, hL0.out.set_ 0 _, (Mod.refl (fun q => q = w.heap.size) wb).setCell (p := ⟨w.heap.size, 0, none⟩) (.inl rfl) _⟩
    · go_wp2_with fail
      go_meet
      exact ⟨len0, by omega, by omega, hL0.out, Mod.refl _ _⟩
  case rest =>
    obtain ⟨L, hl0, hl40, hcl, hmc⟩ := hcut
    have HCL := Lib.hid hcl
    have BC := Lib.hid (Mod.below BW.out hmc (fun k hk => by omega))
    have hlc : w.heap.size < wc.heap.size := hcl.2.2
    have hsl := ints_sl HZ.out hl0
    have hxl : ((List.range L).map z0).length = L := by simp
    generalize (List.range L).map z0 = xs at *
    subst hxl
    have HSL := Lib.hid (hsl.below BC.out)
    have hab := Lib.hid (show ∀ q, blk a0 = some q → 0 < xs.length → q < w.heap.size from fun q e hp => hab0.out q e (by omega))
    clear hcl hmc hsl cl0 fl0 hL0 hab0 HZ BW
    by_cases hk : 1 ≤ a1 ∧ a1 ≤ 20
    · obtain ⟨hk1, hk2⟩ := hk
      go_wp2_with fail
      refine (new_any _ _ (.inl ⟨_, _, _, rfl⟩)).mono ?_
      rintro e w1 ⟨g, rfl, cg, hg, m1⟩
      have H1 := Lib.hid ((Cells.new wc #[.int .i64 0] 3).mod m1 (by simp))
      have M1 := Lib.hid (((Mod.refl (fun _ => False) wc).alloc (.cells #[.int .i64 0] 3)).trans m1 (by simp))
      have n1 : w1.cell? ⟨wc.heap.size, 0, none⟩ = some (.int .i64 0) := H1.out.1 0 _ rfl
      have CL1 := Lib.hid (HCL.out.mod M1.out (by simp))
      have SL1 := Lib.hid (HSL.out.none_ M1.out)
      have B1 := Lib.hid (Mod.below BC.out M1.out (by simp))
      have C1 := Lib.hid cg
      simp at hg
      have HD := Lib.hid (done_any g _ _ _ _ _ w1 cg)
      have hgw : g < w1.heap.size := cg.2.2
      clear cg m1 HCL HSL BC M1
      generalize wc.heap.size = h at *
      generalize hhl : w.heap.size = hl at *
      go_wp2_with fail
      refine HD.out.mono ?_
      rintro e w2 ⟨rfl, rfl⟩
      clear n1 HD
      go_wp2_with fail
      go_loopg [8] a1.toNat (fun m v8 wr => ∃ i : Nat, (i : Int) ≤ a1 ∧ v8 = .int .i64 i ∧
        Hid ((Cells wr g (cold (.func (.func 10) #[] #[.pointer (some ⟨h, 0, none⟩), .pointer (some ⟨hl, 0, none⟩)])) ∧ Cells wr h [.int .i64 0]) ∨
          (∃ lo hi, g < lo ∧ h < lo ∧ hl < lo ∧ hi ≤ wr.heap.size ∧ Hot wr g (.func (.func 10) #[] #[.pointer (some ⟨h, 0, none⟩), .pointer (some ⟨hl, 0, none⟩)]) xs lo hi ∧ Cells wr h [.int .i64 1])) ∧
        Hid (Cells wr hl [.slice a0 xs.length cap0]) ∧ Hid (Sl wr 1 a0 xs.length (ic xs)) ∧ Hid (Below w.heap.size w wr) ∧ Hid (h < wr.heap.size ∧ g < wr.heap.size) ∧ m + i = a1.toNat)
      case atStart => exact ⟨0, by omega, rfl, Lib.hid (.inl ⟨C1.out, H1.out⟩), CL1, SL1, by rw [hhl]; exact B1, Lib.hid ⟨by omega, hgw⟩, by omega⟩
      case round =>
        obtain ⟨i, hi, rfl, HS, HCL, HSL, HBW, HSZ, hm⟩ := hrel
        by_cases hlt : (i : Int) < a1
        · have hget : Calls Try.prog 12 #[.pointer (some ⟨g, 0, none⟩)] wr fun e w' => ∃ A c lo hi, e = .returned (.slice A xs.length c) ∧ Own w' 1 A xs.length c (ic xs) ∧ g < lo ∧ h < lo ∧ hl < lo ∧ hi ≤ w'.heap.size ∧ Hot w' g (.func (.func 10) #[] #[.pointer (some ⟨h, 0, none⟩), .pointer (some ⟨hl, 0, none⟩)]) xs lo hi ∧ Cells w' h [.int .i64 1] ∧ Mod (fun q => q = g ∨ q = h) wr w' ∧ (∀ q, blk A = some q → hi ≤ q ∧ wr.heap.size ≤ q) := by
            have s1 := HSZ.out
            have s3 := HCL.out.2.2
            rcases HS.out with ⟨hc, hh⟩ | ⟨lo, hi2, x1, x2, x3, x4, hot, hh⟩
            · refine (get_all g h hl a0 cap0 xs (by omega) wr hc hh HCL.out (by omega) (by omega) (by omega) HSL.out fun hp q e => (by have := hab.out q e hp; omega)).mono ?_
              · rintro e w' ⟨A, c, hi3, rfl, o2, h2, j2, m2, b2, t1, t2⟩
                exact ⟨A, c, _, hi3, rfl, o2, by omega, by omega, by omega, t2, h2, j2, m2, fun q e => ⟨(b2 q e).2, (b2 q e).1⟩⟩
            · refine (get_again g _ wr xs lo hi2 hot (by omega)).mono ?_
              rintro e w' ⟨A, c, rfl, o2, m2, b2⟩
              have := m2.size
              exact ⟨A, c, lo, hi2, rfl, o2, x1, x2, x3, by omega, hot.mod m2 (by simp) (by simp), hh.mod m2 (by simp), m2.mono (by simp), fun q e => by have := b2 q e; omega⟩
          have HGT := Lib.hid hget
          clear hget
          go_wp2_with fail
          refine HGT.out.mono ?_
          rintro e w2 ⟨A, c, lo, hi2, rfl, o2, x1, x2, x3, x4, hot, hh, m2, b2⟩
          have CL2 := Lib.hid (HCL.out.mod m2 (fun e => by have := HSZ.out; omega))
          have SL2 := Lib.hid (Sl.mod0 HSL.out m2 fun hp q e hq => by have := hab.out q e hp; have := HSZ.out; omega)
          have B2 := Lib.hid (Mod.below HBW.out m2 (fun k hk => by have := HSZ.out; omega))
          have Z2 := Lib.hid (show h < w2.heap.size ∧ g < w2.heap.size from by have := m2.size; have := HSZ.out; omega)
          have n2 : w2.cell? ⟨h, 0, none⟩ = some (.int .i64 1) := hh.1 0 _ rfl
          have l2 : w2.cell? ⟨hl, 0, none⟩ = some (.slice a0 xs.length cap0) := CL2.out.1 0 _ rfl
          obtain ⟨LK, cK, hcK, hoK, hbK⟩ := hot
          have HD2 := Lib.hid (done_any g _ _ _ _ _ w2 hcK)
          have HOT := Lib.hid (show Hot w2 g (.func (.func 10) #[] #[.pointer (some ⟨h, 0, none⟩), .pointer (some ⟨hl, 0, none⟩)]) xs lo hi2 from ⟨LK, cK, hcK, hoK, hbK⟩)
          have O2 := Lib.hid o2
          have HH := Lib.hid hh
          have BA := Lib.hid (show ∀ q, blk A = some q → hi2 ≤ q ∧ wr.heap.size ≤ q from b2)
          have W1 := Lib.hid (show hl < wr.heap.size ∧ w.heap.size ≤ wr.heap.size ∧ h < wr.heap.size ∧ g < wr.heap.size from ⟨HCL.out.2.2, HBW.out.size, HSZ.out⟩)
          obtain ⟨n0, hn0⟩ : ∃ n, n = wr.heap.size := ⟨_, rfl⟩
          rw [← hn0] at BA W1
          clear o2 hh m2 b2 hcK hoK hbK HGT HS HCL HSL HBW
          go_wp2_with fail
          refine HD2.out.mono ?_
          rintro e w3 ⟨rfl, rfl⟩
          clear HD2 n2
          go_wp2_with fail
          go_loopg [10] xs.length (fun m2 v10 wr => ∃ (k : Nat) (ys : List Int), k ≤ xs.length ∧ v10 = .int .i64 k ∧ Hid (ys.length = xs.length ∧ ∀ j (h1 : j < xs.length) (h2 : j < ys.length), k ≤ j → ys[j] = xs[j]) ∧ Hid (Own wr 1 A xs.length c (ic ys)) ∧ Hid (Mod (fun q => blk A = some q) w2 wr) ∧ m2 + k = xs.length)
          case atStart => exact ⟨0, xs, by omega, rfl, Lib.hid ⟨rfl, fun j h1 h2 _ => rfl⟩, O2, Lib.hid (Mod.refl _ _), by omega⟩
          case round =>
            obtain ⟨k, ys, hk, rfl, HY, HO, HM, hm2⟩ := hrel
            by_cases hkx : k < xs.length
            · obtain ⟨hyl, hyx⟩ := HY.out
              obtain ⟨gA, oA, hA, hgA⟩ := HO.out.form (by omega)
              have hO := HO.out
              rw [hA] at hO
              have hky : k < ys.length := by omega
              have hfz : wr.frozen? ⟨gA, oA + k, none⟩ = false := by
                rcases hO.2.2.2 with ⟨h, _⟩ | ⟨g', o', e', _, hr, _⟩
                · cases h
                · injection e' with e'
                  injection e' with e1 e2
                  subst e1 e2
                  have := hO.2.1
                  exact (hr k (by omega)).2
              have hxc : wr.cell? ⟨gA, oA + k, none⟩ = some (.int .i64 xs[k]) := by
                obtain ⟨g', o', e', _, hx⟩ := hO.at_ (ic_at ys hky)
                injection e' with e'
                injection e' with e1 e2
                subst e1 e2
                rw [hyx k hkx hky (Nat.le_refl _)] at hx
                exact hx
              obtain ⟨gl, ol, hl0', hgl, hlx⟩ := (Sl.mod0 SL2.out HM.out fun hp q e hq => by have := hab.out q e hp; have := BA.out q hq; have := W1.out; omega).at_ (by omega)
              have hlc := hlx k _ (ic_at xs hkx)
              have l3 : wr.cell? ⟨hl, 0, none⟩ = some (.slice a0 xs.length cap0) := (CL2.out.mod HM.out (fun e => by have := BA.out hl e; have := W1.out; omega)).1 0 _ rfl
              have hsetA := Lib.hid (show ∀ (q : Nat) (u : Int), Own ((wr.drewN q).setCell ⟨gA, oA + k, none⟩ (.int .i64 u)) 1 A xs.length c (ic (ys.set k u)) from fun q u => by rw [hA, show ic (ys.set k u) = (ic ys).set k (.int .i64 u) from List.map_set]; exact Own.set_ (hO.drewN q) (j := k) (by omega) (.int .i64 u))
              have hsetM := Lib.hid (fun q u => (HM.out.drewN q).setCell (p := ⟨gA, oA + k, none⟩) (.inl (by rw [hA]; rfl)) (.int .i64 u))
              have HA := Lib.hid hA
              have HL0 := Lib.hid hl0'
              have hne : ∀ X : Int, (X != X) = false := fun X => by simp
              have hY2 := Lib.hid (show ∀ u, (ys.set k u).length = xs.length ∧ ∀ j (h1 : j < xs.length) (h2 : j < (ys.set k u).length), k + 1 ≤ j → (ys.set k u)[j] = xs[j] from fun u => ⟨by simp [hyl], fun j h1 h2 hj => by
                rw [List.getElem_set_ne (by omega)]
                exact hyx j h1 (by simpa using h2) (by omega)⟩)
              have j0 : (0 : Int) ≤ (k : Int) := by omega
              have j1 : (k : Int) < (xs.length : Int) := by omega
              clear hO hlx hyx hyl
              generalize xs[k] = X at *
              rw [hA]
              rw [hl0'] at l3
              clear hA hl0'
              go_wp2_with fail
              go_quiet (fail)
              all_goals
                go_wp2_with fail
                rw [← HA.out]
                go_roundg (xs.length - (k + 1))
                case measure => omega
                case rel => exact ⟨k + 1, ys.set k _, by omega, by go_num, Lib.hid (hY2.out _), Lib.hid (hsetA.out _ _), Lib.hid (hsetM.out _ _), by omega⟩
            · obtain rfl : k = xs.length := by omega
              have hF : ∀ q, blk A = some q → hi2 ≤ q ∧ n0 ≤ q := BA.out
              have HS3 := Lib.hid (HOT.out.mod HM.out (fun e => by have := hF g e; have := W1.out; omega) (fun q e => .inr (hF q e).1))
              have HH3 := Lib.hid (HH.out.mod HM.out (fun e => by have := hF h e; have := W1.out; omega))
              have CL3 := Lib.hid (CL2.out.mod HM.out (fun e => by have := hF hl e; have := W1.out; omega))
              have SL3 := Lib.hid (Sl.mod0 SL2.out HM.out fun hp q e hq => by have := hab.out q e hp; have := hF q hq; have := W1.out; omega)
              have B3 := Lib.hid (Mod.below B2.out HM.out (fun k hk => by have := hF k hk; have := W1.out; omega))
              have hs3 := HM.out.size
              go_wp2_with fail
              go_roundg (a1.toNat - (i + 1))
              case measure => omega
              case rel => exact ⟨i + 1, by omega, by go_num, Lib.hid (.inr ⟨lo, hi2, x1, x2, x3, by omega, HS3.out, HH3.out⟩), CL3, SL3, B3, Lib.hid (by have := Z2.out; omega), by omega⟩
        · have hBW := HBW
          go_wp2_with fail
          go_ret
          exact ⟨rfl, by rw [← hhl]; exact hBW.out⟩
    · have hend : a1 < 1 ∨ 20 < a1 := by omega
      have hBC : Below w.heap.size w wc := BC.out
      clear hk
      rcases hend with h1 | h1
      all_goals
        go_wp2_with fail
        go_ret
        exact ⟨rfl, hBC⟩
/-! ### the row's step -/
theorem own : ownKnob Try.prog.godebug = none := by kernel_rfl
theorem laidOut : laidOutB Try.prog = true := by kernel_rfl
set_option maxRecDepth 100000 in
theorem lifted (os : Os) (started : os.Started) (H : Type) (enc : TypeId × Value → H) :
    ReturnsInHanded {} Try.checked os 3 .any (Rows.onceAllSpec.pre6 enc Try.prog Try.f3 Rows.onceAllRow.domain false) (Rows.onceAllSpec.post enc Try.prog Try.f3 false true false false) := by
  refine returnsInHanded_of_change (C := Try.checked) own started (by kernel_rfl) Try.func3
    (ChangeSpec.witness6 (enc := enc) (C := Try.checked) false ⟨#[], #[.slice none 0 0, .int .i64 0], []⟩ 8 (by kernel_rfl) (by kernel_rfl) (by kernel_rfl) (by kernel_rfl)) ?_
  intro W base args ds gs before hval0 hW hcnd _
  have hval : ∀ (j : Nat) t v, Try.f3.params[j]? = some t → args[j]? = some v → Value.okWide Try.prog W .any base t v := hval0
  have hW' := hW
  obtain ⟨p, q, hA0, hV, rfl, hfz, hnd⟩ := hW
  have hA : DataW.TrodAll enc Try.prog W 0 (fun _ => true) true Try.f3.params.toList args.toList ds p := hA0
  rw [Try.params3] at hA hval
  obtain ⟨v0, vs0, d0, ds0, p0, q0, hargs, rfl, rfl, h0, r0⟩ := trodAll_cons hA
  obtain ⟨v1, vs1, d1, ds1, p1, q1, rfl, rfl, rfl, h1, r1⟩ := trodAll_cons r0
  obtain ⟨rfl, rfl, rfl⟩ := trodAll_nil r1
  obtain rfl : args = #[v0, v1] := by cases args; simp_all
  obtain ⟨rfl, rfl⟩ := trodVars_none hV
  have k0 := h0
  have lt0 : ∀ x ∈ p0, x.block < W.heap.size := by obtain ⟨m, hm⟩ := k0; exact DataW.trod_lt m _ _ _ hm
  have k1 := h1
  have lt1 : ∀ x ∈ p1, x.block < W.heap.size := by obtain ⟨m, hm⟩ := k1; exact DataW.trod_lt m _ _ _ hm
  obtain ⟨a0, len0, cap0, rfl⟩ := okWide_slice Try.underlying22 (hval 0 22 v0 rfl rfl)
  obtain ⟨z0, w0⟩ := IntsAt.open_ Try.underlying22 Try.underlying2 (by kernel_rfl) h0
  have c0 := slice_cap Try.underlying22 h0
  obtain ⟨a1, rfl, rfl, rfl, w1⟩ := open_int Try.underlying3 (hval 1 3 v1 rfl rfl) h1
  clear hA0 hval0
  refine (walk a0 len0 cap0 z0 a1 W w0 w1 c0).mono fun e W' ⟨he, bel⟩ => ?_
  subst he
  exact ⟨_, rfl, _, _, _, [], _, [], hW', trodAll_mk1 (shut_bool Try.underlying4 _), (trodAll_cons_mk (Below.trod laidOut (by kernel_rfl) (of_decide_eq_true (by kernel_rfl)) k0 bel lt0) (trodAll_cons_mk (Below.trod laidOut (by kernel_rfl) (of_decide_eq_true (by kernel_rfl)) k1 bel lt1) trodAll_mk0)), rfl, bel.frame _, fun h => by cases h⟩

theorem over : Rows.onceAllRow.holds Try.pinned (OpenSpec.ofChange Rows.onceAllSpec) :=
  OpenClaim.holds_of_wide 3 Try.f3 rfl rfl rfl rfl rfl rfl rfl ⟨rfl, rfl, rfl, rfl, rfl⟩ rfl rfl rfl rfl rfl (by kernel_rfl) Try.func3 (by kernel_rfl)
    (of_decide_eq_true (by kernel_rfl)) (by unfold Func.isWrapper; first | (rw [if_pos (by decide +kernel)]; kernel_rfl) | (rw [if_neg (by decide +kernel)]; exact ⟨rfl, rfl⟩))
    (fun os started H enc _ => lifted os started H enc)

theorem proved : Rows.OnceAllSaid := over
#print axioms proved
end Go.Proofs.Ytgioelaagedlbaa.onceAll
