/- Proved: curfewlaw7.WheelAll answers true for every time and every list of operations, and leaves what came in as it was. No condition. -/
import Derived.Test.YtnfhmflcaolbbaaWheelT
namespace Go.Proofs.Ytnfhmflcaolbbaa.wheelAll
open Go.ChangeShapes Go.WideShapes Go.ChangeAt Go.RowKit
set_option linter.unusedVariables false
set_option linter.unusedSimpArgs false
attribute [local go_sem ↓] Go.wp_at_zero Go.wp_at_succ

/-! ### the operations that came in -/
def IsOp (cs : List Value) : Prop := ∃ kd id tm : Int, cs = [.int .i64 kd, .int .i64 id, .int .i64 tm]
def OpRow (w : World) (a : Option Addr) (len cap : Nat) : Prop := SlAt w 3 IsOp a len
theorem isOp_of {H : Type} {enc : TypeId × Value → H} {w : World} {base : Nat} {spare : Nat → Bool} {held : Bool} (n : Nat) (cs : List Value) (x : DataW H × List MemPlace)
    (h : DataW.trod enc Try.prog w base spare held n 29 cs = some x) : IsOp cs := by
  obtain ⟨xs, m, _, hx, hl, hlen, hf⟩ := DataW.trod_struct Try.underlying29 h
  have hl3 : cs.length = 3 := hl.trans (by kernel_rfl)
  have c1 : Try.prog.cellsOf 3 = 1 := by kernel_rfl
  have c2 : Try.prog.cellsOf 2 = 1 := by kernel_rfl
  match cs, hl3 with
  | [v0, v1, v2], _ =>
    match xs, hlen with
    | [y0, y1, y2], _ =>
      have t0 : DataW.trod enc Try.prog w base spare held m 3 (([v0, v1, v2].drop 0).take (Try.prog.cellsOf 3)) = some y0 := hf 0 _ rfl
      have t1 : DataW.trod enc Try.prog w base spare held m 3 (([v0, v1, v2].drop 1).take (Try.prog.cellsOf 3)) = some y1 := hf 1 _ rfl
      have t2 : DataW.trod enc Try.prog w base spare held m 2 (([v0, v1, v2].drop 2).take (Try.prog.cellsOf 2)) = some y2 := hf 2 _ rfl
      rw [c1] at t0 t1
      rw [c2] at t2
      obtain ⟨n0, e0, -⟩ := DataW.trod_int Try.underlying3 t0
      obtain ⟨n1, e1, -⟩ := DataW.trod_int Try.underlying3 t1
      obtain ⟨n2, e2, -⟩ := DataW.trod_int Try.underlying2 t2
      simp at e0 e1 e2
      exact ⟨n0, n1, n2, by rw [e0, e1, e2]⟩
theorem OpRow.open_ {H : Type} {enc : TypeId × Value → H} {w : World} {base : Nat} {spare : Nat → Bool} {held : Bool} {a : Option Addr} {len cap : Nat} {d : DataW H} {p : List MemPlace}
    (h : DataW.Trod enc Try.prog w base spare held 22 (.slice a len cap) d p) : OpRow w a len cap :=
  SlAt.open_ Try.underlying22 (by kernel_rfl) (by decide) isOp_of h

theorem Own.set_ {w : World} {size g o n c : Nat} {xs : List Value} (h : Own w size (some ⟨g, o, none⟩) n c xs) {j : Nat} (hj : j < n * size) (u : Value) : Own (w.setCell ⟨g, o + j, none⟩ u) size (some ⟨g, o, none⟩) n c (xs.set j u) := by
  obtain ⟨h1, h2, h3, h4⟩ := h
  rcases h4 with ⟨h5, _⟩ | ⟨g', o', e, hl, hr, hx⟩
  · cases h5
  · injection e with e
    injection e with e1 e2
    subst e1 e2
    have hle : n * size ≤ c * size := Nat.mul_le_mul_right _ h2
    refine ⟨by rw [List.length_set]; exact h1, h2, h3, .inr ⟨g, o, rfl, by simp [World.setCell]; exact hl, fun i hi => ⟨?_, by rw [World.frozen?_setCell]; exact (hr i hi).2⟩, fun i v hv => ?_⟩⟩
    · by_cases e : i = j
      · subst e
        obtain ⟨y, hy⟩ := Option.isSome_iff_exists.1 (hr i hi).1
        rw [World.cell?_setCell_same (h := hy)]; rfl
      · rw [World.cell?_setCell_other _ _ _ _ (by intro h; injection h with _ h; omega)]
        exact (hr i hi).1
    · by_cases e : i = j
      · subst e
        obtain ⟨y, hy⟩ := Option.isSome_iff_exists.1 (hr i (by omega)).1
        rw [List.getElem?_set_self (by rw [h1]; exact hj)] at hv
        injection hv with hv
        subst hv
        exact World.cell?_setCell_same (h := hy) ..
      · rw [List.getElem?_set_ne (fun h => e h.symm)] at hv
        rw [World.cell?_setCell_other _ _ _ _ (by intro h; injection h with _ h; omega)]
        exact hx i v hv
/-- where the wheel and the law's own list lie -/
structure Sp (W wr : World) (g : Nat) (F : Nat → Prop) (now : Int) (lw l : List Tm) (L : Option Addr) (cL : Nat) : Prop where
  hw : IsW wr g F now lw
  ho : Own wr 2 L l.length cL (tc l)
  lf : ∀ q, blk L = some q → W.heap.size ≤ q ∧ ¬ F q
  ff : ∀ q, F q → W.heap.size ≤ q
  hb : Below W.heap.size W wr
theorem Sp.none_ {W wr w' : World} {g : Nat} {F : Nat → Prop} {now : Int} {lw l : List Tm} {L : Option Addr} {cL : Nat} (h : Sp W wr g F now lw l L cL) (hm : Mod (fun _ => False) wr w') : Sp W w' g F now lw l L cL :=
  ⟨h.hw.none_ hm, h.ho.mod hm (by simp), h.lf, h.ff, Mod.below h.hb hm (by simp)⟩
theorem Sp.step {W wr w3 : World} {g : Nat} {F F3 : Nat → Prop} {now now3 : Int} {lw lw3 l : List Tm} {L : Option Addr} {cL : Nat} (h : Sp W wr g F now lw l L cL) (p3 : IsW w3 g F3 now3 lw3) (m3 : Mod F wr w3) (f3 : ∀ k, F3 k → F k ∨ wr.heap.size ≤ k) : Sp W w3 g F3 now3 lw3 l L cL :=
  ⟨p3, h.ho.mod m3 (fun q e => (h.lf q e).2), fun q e => ⟨(h.lf q e).1, fun h3 => by
    have h4 := h.ho.lt e
    rcases f3 q h3 with h5 | h5
    · exact (h.lf q e).2 h5
    · omega⟩, fun q hq => by
    have h6 := h.hb.size
    rcases f3 q hq with h5 | h5
    · exact h.ff q h5
    · omega, Mod.below h.hb m3 h.ff⟩
theorem Sp.repl {W wr w4 : World} {g : Nat} {F G : Nat → Prop} {now : Int} {lw l l4 : List Tm} {L L4 : Option Addr} {cL c4 n4 : Nat} (h : Sp W wr g F now lw l L cL) (m : Mod G wr w4) (hG : ∀ q, G q → W.heap.size ≤ q ∧ ¬ F q) (hn : l4.length = n4) (ho : Own w4 2 L4 n4 c4 (tc l4)) (lf : ∀ q, blk L4 = some q → W.heap.size ≤ q ∧ ¬ F q) : Sp W w4 g F now lw l4 L4 c4 :=
  ⟨h.hw.mod m (fun q _ h1 h2 => (hG q h2).2 h1), by rw [hn]; exact ho, lf, h.ff, Mod.below h.hb m (fun q hq => (hG q hq).1)⟩
theorem Sp.app {W w3 w4 : World} {g : Nat} {F : Nat → Prop} {now : Int} {lw l : List Tm} {L L4 : Option Addr} {cL c4 : Nat} {x : Tm} (h : Sp W w3 g F now lw l L cL) {o : Obj} (ho4 : Own w4 2 L4 (l.length + 1) c4 (tc l ++ x.cells)) (hg : (w3.alloc o).grownBy w4 (blk L)) (hb4 : blk L4 = blk L ∨ ∃ g, blk L4 = some g ∧ (w3.alloc o).heap.size ≤ g) : Sp W w4 g F now lw (l ++ [x]) L4 c4 :=
  h.repl (G := fun q => blk L = some q) (((Mod.refl _ w3).alloc o).grown hg (fun q e => .inl e)) (fun q e => h.lf q e) (n4 := l.length + 1) (by simp) (by rw [tc_app, show tc [x] = x.cells by simp [tc]]; exact ho4) (fun q e => by
    rcases hb4 with e2 | ⟨q2, e2, hq⟩
    · exact h.lf q (by rw [← e2]; exact e)
    · rw [e2] at e
      have e3 : q2 = q := Option.some.inj e
      have h7 := h.hb.size
      simp at hq
      exact ⟨by omega, fun hF => by have := h.hw.lt q hF; omega⟩)
theorem Sp.put {W wr : World} {g gL oL : Nat} {F : Nat → Prop} {now : Int} {lw l : List Tm} {cL : Nat} (h : Sp W wr g F now lw l (some ⟨gL, oL, none⟩) cL) {p : Nat} (hp : p < l.length) (t : Int) : Sp W (wr.setCell ⟨gL, oL + (p * 2 + 1), none⟩ (.int .i64 t)) g F now lw (l.set p ⟨l[p].id, t⟩) (some ⟨gL, oL, none⟩) cL :=
  h.repl (G := fun q => q = gL) ((Mod.refl (fun q => q = gL) wr).setCell (p := ⟨gL, oL + (p * 2 + 1), none⟩) (.inl rfl) _) (fun q e => h.lf q (by rw [e]; rfl)) (n4 := l.length) (by simp) (by rw [← tc_set hp]; exact Own.set_ h.ho (by omega) _) h.lf
theorem Sp.cutout {W w3 w4 wx : World} {g gL oL : Nat} {F : Nat → Prop} {now : Int} {lw l : List Tm} {cL c4 p : Nat} {L4 : Option Addr} (h : Sp W w3 g F now lw l (some ⟨gL, oL, none⟩) cL) (hlf : ∀ q, blk (some (⟨gL, oL, none⟩ : Addr)) = some q → W.heap.size ≤ q ∧ ¬ F q) (m : Mod (fun q => q = gL) w3 w4)
    (hb4 : blk L4 = blk (some (⟨gL, oL, none⟩ : Addr)) ∨ ∃ g, blk L4 = some g ∧ wx.heap.size ≤ g) (ho4 : Own w4 2 L4 (p + (l.length - (p + 1))) c4 (tc (l.take p) ++ tc (l.drop (p + 1)))) (hp : p < l.length) (hx : wx.heap.size = w3.heap.size := by rfl) : Sp W w4 g F now lw (l.take p ++ l.drop (p + 1)) L4 c4 :=
  h.repl m (fun q e => by subst e; exact hlf q rfl) (n4 := p + (l.length - (p + 1))) (by simp; omega) (by rw [tc_app]; exact ho4) (fun q e => by
    rcases hb4 with e2 | ⟨q2, e2, hq⟩
    · exact hlf q (by rw [← e2]; exact e)
    · rw [e2] at e
      have e3 : q2 = q := Option.some.inj e
      have h7 := h.hb.size
      exact ⟨by omega, fun hF => by have := h.hw.lt q hF; omega⟩)
/-- the wheel and the law's own list, in one state -/
structure St (W wr : World) (g : Nat) (F : Nat → Prop) (now : Int) (lw l : List Tm) (L : Option Addr) (cL : Nat) : Prop extends Sp W wr g F now lw l L cL where
  hp : lw.Perm l
  hs : SortedT lw
  hn : (l.map Tm.id).Nodup
theorem St.none_ {W wr w' : World} {g : Nat} {F : Nat → Prop} {now : Int} {lw l : List Tm} {L : Option Addr} {cL : Nat} (h : St W wr g F now lw l L cL) (hm : Mod (fun _ => False) wr w') : St W w' g F now lw l L cL :=
  ⟨h.toSp.none_ hm, h.hp, h.hs, h.hn⟩
theorem St.same {W wr : World} {g : Nat} {F : Nat → Prop} {now : Int} {lw l : List Tm} {L : Option Addr} {cL : Nat} (h : St W wr g F now lw l L cL) (hlen : l.length ≤ 100) :
    Calls Try.prog 14 #[.pointer (some ⟨g, 0, none⟩), .slice L l.length cL, .int .i64 now] wr fun e w' => e = .returned (.bool true) ∧ St W w' g F now lw l L cL :=
  (same_any g F now lw l L cL wr h.hw (Sl.of_own h.ho) h.hp h.hs h.hn hlen).mono fun e w' ⟨h1, h2⟩ => ⟨h1, h.none_ h2⟩
theorem Sp.gone {W w3 wr : World} {g : Nat} {F : Nat → Prop} {tm : Int} {lw l off : List Tm} {L A1 A2 : Option Addr} {cL c1 c2 mm n1 : Nat} (h : Sp W w3 g F tm (lw.drop mm) l L cL) (hg : Gs w3 wr tm l l.length A1 c1 A2 c2 off) (hn1 : (stay tm (l.take l.length)).length = n1) (hp : lw.Perm l ∧ SortedT lw ∧ (l.map Tm.id).Nodup)
    (hm1 : mm ≤ lw.length) (hm2 : ∀ j (h : j < lw.length), j < mm → lw[j].t ≤ tm) (hm3 : ∀ h : mm < lw.length, tm < lw[mm].t) : ∃ l2 : List Tm, l2.length = n1 ∧ St W wr g F tm (lw.drop mm) l2 A1 c1 ∧ lw.take mm = off ∧ mm = off.length := by
  have h1 := hg.o1
  have h2 := hg.p
  rw [List.take_length] at h1 h2 hn1
  obtain ⟨e1, e2, e3⟩ := go_law hp.1 hp.2.1 hm1 hm2 hm3 h2 hg.s
  refine ⟨stay tm l, hn1, ⟨⟨h.hw.none_ hg.m, h1, fun q e => ⟨?_, fun hF => ?_⟩, h.ff, Mod.below h.hb hg.m (by simp)⟩, e2, e3, stay_nodup hp.2.2 tm⟩, e1, ?_⟩
  · have := (hg.b1 q e).1
    have := h.hb.size
    omega
  · have := (hg.b1 q e).1
    have := h.hw.lt q hF
    omega
  · rw [← e1, List.length_take]; omega
/-- where that number stands, or -1 -/
def Ix (l : List Tm) (id : Int) (k : Nat) (at_ : Int) : Prop := (at_ = -1 ∧ ∀ q (hq : q < l.length), q < k → l[q].id ≠ id) ∨ ∃ p : Nat, at_ = p ∧ p < k ∧ ∃ h : p < l.length, l[p].id = id
theorem Ix.hit {l : List Tm} {id : Int} {k : Nat} (hk : k < l.length) (e : l[k].id = id) : Ix l id (k + 1) k := .inr ⟨k, rfl, by omega, hk, e⟩
theorem Ix.miss {l : List Tm} {id at_ : Int} {k : Nat} (h : Ix l id k at_) (hk : k < l.length) (e : l[k].id ≠ id) : Ix l id (k + 1) at_ := by
  rcases h with ⟨rfl, h⟩ | ⟨p, rfl, h1, h2⟩
  · exact .inl ⟨rfl, fun q hq hqk => by
      by_cases e2 : q = k
      · subst e2; exact e
      · exact h q hq (by omega)⟩
  · exact .inr ⟨p, rfl, by omega, h2⟩

theorem info_tl : (Try.prog.info? 31).map (fun i => (i.zero, i.size, i.bytes)) = some (some (.agg #[.int .i64 0, .int .i64 0]), 2, 16) := by kernel_rfl
set_option maxRecDepth 100000 in
set_option maxHeartbeats 51200000 in
theorem walk (a0 : Int) (a1 : Option Addr) (len1 cap1 : Nat) (w : World) (w0 : (Lit.int .i64 a0).wf = true) (w1 : OpRow w a1 len1 cap1) :
    Calls Try.prog 3 #[.int .i64 a0, .slice a1 len1 cap1] w fun e w' => e = .returned (.bool true) ∧ Below w.heap.size w w' := by
  obtain ⟨i0, hi0, hz0, hz1, hz2⟩ := info_parts info_tl
  have HI := Lib.hid hi0
  have HZ0 := Lib.hid hz0
  have HZ1 := Lib.hid hz1
  have HZ2 := Lib.hid hz2
  have hm1 := w1.1
  unfold maxLen at hm1
  have W1 := Lib.hid w1
  clear hi0 hz0 hz1 hz2 w0 w1
  go_enter Try.func3, Try.ntmps3
  go_wp2_with fail
  refine (begunW_any _).mono ?_
  rintro e wb ⟨rfl, hb⟩
  have HB := Lib.hid hb
  clear hb
  go_wp2_with fail
  refine (newW_any a0 wb).mono ?_
  rintro e wp ⟨g, rfl, pp, hg, mp⟩
  have hgw : w.heap.size ≤ g := Nat.le_trans HB.out.size hg
  have hst : St w wp g (fun k => k = g) (if timeB a0 then a0 else 0) [] [] none 0 := ⟨⟨pp, Own.nil _ _, by simp [blk], fun q e => by subst e; exact hgw, Mod.below HB.out mp (by simp)⟩, List.Perm.refl _, fun i j hi => absurd hi (by simp), by simp⟩
  have HST := Lib.hid hst
  clear hst pp mp HB
  go_wp2_with fail
  refine (timeR a0 wp).mono ?_
  rintro e w2 ⟨rfl, rfl⟩
  generalize timeB a0 = tb at *
  go_upto_if 26 with (fail)
  go_cut [0] (fun s0 wx => s0 = .int .i64 (if tb then a0 else 0) ∧ wp = wx)
  case first =>
    cases tb
    · go_wp2_with fail
      go_meet
      exact ⟨rfl, rfl⟩
    · go_wp2_with fail
      go_meet
      exact ⟨rfl, rfl⟩
  case rest =>
    obtain ⟨rfl, rfl⟩ := hcut
    have HST := Lib.hid (show St w wp g (fun k => k = g) (if tb then a0 else 0) [] [] none 0 from by cases tb <;> exact HST.out)
    generalize (if tb then a0 else 0) = now at *
    clear tb
    go_wp2_with fail
    go_loopg [0, 7, 8, 9, 10, 11, 12, 13, 14, 15, 16, 17, 18] 60 (fun m v0 v7 v8 v9 v10 v11 v12 v13 v14 v15 v16 v17 v18 wr => ∃ (i : Nat) (now : Int) (lw l : List Tm) (F : Nat → Prop) (L : Option Addr) (cL : Nat), i ≤ 60 ∧ i ≤ len1 ∧ l.length ≤ i ∧ v0 = .int .i64 now ∧ v7 = .slice L l.length cL ∧ v8 = .int .i64 i ∧ Hid (St w wr g F now lw l L cL) ∧ m + i = 60)
    case atStart => exact ⟨0, now, [], [], _, none, 0, by omega, by omega, by simp, rfl, rfl, rfl, HST, by omega⟩
    case round => as_aux_lemma =>
      obtain ⟨i, now, lw, l, F, L, cL, hi, hil, hli, rfl, rfl, rfl, HS, hm⟩ := hrel
      by_cases hin : i < len1 ∧ i < 60
      · obtain ⟨h1, h2⟩ := hin
        obtain ⟨bl, o, cs, ha1, hbl, hlen, hcell, kd, id, tm, rfl⟩ := W1.out.2 i h1
        have q0 := (HS.out.hb.cell (p := ⟨bl, o + i * 3 + 0, none⟩) hbl).trans (hcell 0 _ rfl)
        have q1 := (HS.out.hb.cell (p := ⟨bl, o + i * 3 + 1, none⟩) hbl).trans (hcell 1 _ rfl)
        have q2 := (HS.out.hb.cell (p := ⟨bl, o + i * 3 + 2, none⟩) hbl).trans (hcell 2 _ rfl)
        rw [Nat.add_zero] at q0
        have HA1 := Lib.hid ha1
        have j0 : (0 : Int) ≤ (i : Int) := by omega
        have j1 : (i : Int) < (len1 : Int) := by omega
        clear hcell hlen
        rw [ha1]
        clear ha1
        go_upto_region 12 with (fail)
        have HS2 := Lib.hid (HS.out.none_ ((Mod.refl _ wr).alloc (.cells #[.int .i64 kd, .int .i64 id, .int .i64 tm] 29)))
        have HX2 := Lib.hid (Cells.new wr #[.int .i64 kd, .int .i64 id, .int .i64 tm] 29)
        have hxF := Lib.hid (show ∀ q, F q → q ≠ wr.heap.size from fun q hq e => by have := HS.out.hw.lt q hq; omega)
        have hxL := Lib.hid (show ∀ q, blk L = some q → q ≠ wr.heap.size from fun q hq e => by have := HS.out.ho.lt hq; omega)
        have hxw := HS.out.hb.size
        clear HS q0 q1 q2
        generalize wr.alloc (.cells #[.int .i64 kd, .int .i64 id, .int .i64 tm] 29) = wr2 at *
        generalize wr.heap.size = x at *
        go_wp2_with fail
        go_loopg [10, 11] l.length (fun m' v10 v11 wr => ∃ (k : Nat) (at_ : Int), k ≤ l.length ∧ v11 = .int .i64 k ∧ v10 = .int .i64 at_ ∧ Hid (Ix l id k at_) ∧ Hid (St w wr g F now lw l L cL) ∧ Hid (Cells wr x [.int .i64 kd, .int .i64 id, .int .i64 tm]) ∧ m' + k = l.length)
        case atStart => exact ⟨0, -1, by omega, rfl, rfl, Lib.hid (.inl ⟨rfl, fun q _ h => absurd h (by omega)⟩), HS2, HX2, by omega⟩
        case round => as_aux_lemma =>
          obtain ⟨k, at_, hk, rfl, rfl, HIx, HS, HX, hm'⟩ := hrel
          by_cases hkl : k < l.length
          · obtain ⟨gL, oL, hL, hgL, r0, _⟩ := (Sl.of_own HS.out.ho).tm hkl
            have HL := Lib.hid hL
            have r1 : wr.cell? ⟨x, 1, none⟩ = some (.int .i64 id) := HX.out.1 1 _ rfl
            have k0 : (0 : Int) ≤ (k : Int) := by omega
            have k1 : (k : Int) < (l.length : Int) := by omega
            have HIh := Lib.hid (fun e : l[k].id = id => Ix.hit hkl e)
            have HIm := Lib.hid (fun e : l[k].id ≠ id => HIx.out.miss hkl e)
            have hS2 := Lib.hid (fun q => HS.out.none_ ((Mod.refl _ wr).drewN q))
            have hX2 := Lib.hid (fun q => HX.out.drewN q)
            generalize l[k].id = y at *
            rw [hL]
            clear hL HS HX
            by_cases hy : y = id
            · as_aux_lemma =>
                subst hy
                go_wp2_with fail
                go_quiet (fail)
                go_wp2_with fail
                rw [← HL.out]
                go_roundg (l.length - (k + 1))
                case measure => omega
                case rel => exact ⟨k + 1, k, by omega, by go_num, rfl, Lib.hid (HIh.out (by first | trivial | rfl)), Lib.hid (hS2.out _), Lib.hid (hX2.out _), by omega⟩
            · as_aux_lemma =>
                go_wp2_with fail
                go_quiet (fail)
                go_wp2_with fail
                rw [← HL.out]
                go_roundg (l.length - (k + 1))
                case measure => omega
                case rel => exact ⟨k + 1, at_, by omega, by go_num, rfl, Lib.hid (HIm.out hy), Lib.hid (hS2.out _), Lib.hid (hX2.out _), by omega⟩
          · have hke : k = l.length := by omega
            subst hke
            clear hk HS2 HX2
            have r0 : wr.cell? ⟨x, 0, none⟩ = some (.int .i64 kd) := HX.out.1 0 _ rfl
            have r1 : wr.cell? ⟨x, 1, none⟩ = some (.int .i64 id) := HX.out.1 1 _ rfl
            have r2 : wr.cell? ⟨x, 2, none⟩ = some (.int .i64 tm) := HX.out.1 2 _ rfl
            have hlw := HS.out.hp.length_eq
            rcases (show kd = 0 ∨ kd = 1 ∨ (¬ kd = 0 ∧ ¬ kd = 1) by omega) with rfl | rfl | ⟨hk0, hk1⟩
            · go_upto_region 41 with (fail)
              go_cut [12] (fun s12 wx => s12 = .bool ((decide (0 ≤ id) && decide (id < 64)) && timeB tm) ∧ wr = wx)
              case first => as_aux_lemma =>
                rcases (show id < 0 ∨ (0 ≤ id ∧ 64 ≤ id) ∨ (0 ≤ id ∧ id < 64) by omega) with e1 | ⟨e1, e2⟩ | ⟨e1, e2⟩
                · as_aux_lemma =>
                    have E := Lib.hid (show ((decide (0 ≤ id) && decide (id < 64)) && timeB tm) = false by rw [decide_eq_false (by omega)]; rfl)
                    go_wp2_with fail
                    go_meet
                    exact ⟨by rw [E.out], rfl⟩
                · as_aux_lemma =>
                    have E := Lib.hid (show ((decide (0 ≤ id) && decide (id < 64)) && timeB tm) = false by rw [decide_eq_false (show ¬ id < 64 by omega), Bool.and_false]; rfl)
                    go_wp2_with fail
                    go_meet
                    exact ⟨by rw [E.out], rfl⟩
                · as_aux_lemma =>
                    have E := Lib.hid (show ((decide (0 ≤ id) && decide (id < 64)) && timeB tm) = timeB tm by rw [decide_eq_true e1, decide_eq_true e2]; rfl)
                    go_wp2_with fail
                    refine (timeR tm wr).mono ?_
                    rintro e wz ⟨rfl, rfl⟩
                    generalize timeB tm = tb at *
                    go_wp2_with fail
                    go_meet
                    exact ⟨by rw [E.out], rfl⟩
              case rest => as_aux_lemma =>
                obtain ⟨h12, rfl⟩ := hcut
                by_cases hgood : ((decide (0 ≤ id) && decide (id < 64)) && timeB tm) = true
                · as_aux_lemma =>
                    have hg3 := hgood
                    simp only [Bool.and_eq_true, decide_eq_true_eq] at hg3
                    obtain ⟨⟨g0, g1⟩, g2⟩ := hg3
                    rw [hgood] at h12
                    subst h12
                    have HSet := Lib.hid (set_ok g F now lw id tm wr HS.out.hw (by omega) g0 g1 g2)
                    clear hgood g2
                    go_wp2_with fail
                    with_reducible refine HSet.out.mono ?_
                    intro e w3 h3
                    obtain ⟨F3, l2, he3, p3, hp3, hs3, m3, f3⟩ := h3
                    subst he3
                    have SP3 := Lib.hid (HS.out.toSp.step p3 m3 f3)
                    have HX3 := HX.out.mod m3 (fun h => hxF.out x h rfl)
                    have t1 : w3.cell? ⟨x, 1, none⟩ = some (.int .i64 id) := HX3.1 1 _ rfl
                    have t2 : w3.cell? ⟨x, 2, none⟩ = some (.int .i64 tm) := HX3.1 2 _ rfl
                    have HS3 := Lib.hid hs3
                    rcases HIx.out with ⟨rfl, hno⟩ | ⟨p, rfl, hp, hpl, hpid⟩
                    · as_aux_lemma =>
                        obtain ⟨hperm, hnd⟩ := add_law HS.out.hp HS.out.hn (x := ⟨id, tm⟩) (fun q hq => hno q hq hq) hp3
                        have HP := Lib.hid hperm
                        have HN := Lib.hid hnd
                        clear p3 hp3 hs3 m3 f3 HX3 hno hperm hnd HIx HX HSet r0 r1 r2 HS
                        go_wp2_with (at_builtin; refine wpList_append_Own _ rfl _ _ _ rfl 31 i0 _ 2 16 Try.underlying27 HI.out HZ0.out HZ1.out HZ2.out rfl (by decide) L l.length cL _ rfl (SP3.out.ho.alloc _) ⟨w3.heap.size, 0, none⟩ 1 1 (⟨id, tm⟩ : Tm).cells rfl rfl (World.news_of_block (heap_alloc_new _ _)) (Tm.one ⟨id, tm⟩) (by decide) (by unfold maxLen; omega) (by omega) ?_; intro L4 c4 w4 ho4 hg4 hb4; have S4 := Lib.hid (show St w w4 g F3 now l2 (l ++ [⟨id, tm⟩]) L4 c4 from ⟨SP3.out.app ho4 hg4 hb4, HP.out, HS3.out, HN.out⟩); have hsame := S4.out.same (by simp; omega); rw [show (l ++ [(⟨id, tm⟩ : Tm)]).length = l.length + 1 by simp] at hsame; have HSame := Lib.hid hsame; clear ho4 hg4 hb4 hsame)
                        with_reducible refine HSame.out.mono ?_
                        intro e w5 h5
                        obtain ⟨he5, hst5⟩ := h5
                        subst he5
                        have S5 := Lib.hid hst5
                        clear hst5 HSame S4 t1 t2
                        go_wp2_with fail
                        rw [← HA1.out]
                        go_roundg (60 - (i + 1))
                        case measure => omega
                        case rel => exact ⟨i + 1, now, l2, l ++ [⟨id, tm⟩], F3, L4, c4, by omega, by omega, by simp; omega, rfl, by simp, by go_num, S5, by omega⟩
                    · as_aux_lemma =>
                        obtain ⟨hperm, hnd⟩ := set_law HS.out.hp HS.out.hn hpl (x := ⟨id, tm⟩) hpid hp3
                        have HP := Lib.hid hperm
                        have HN := Lib.hid hnd
                        obtain ⟨gL, oL, hL, hgL, _, q1⟩ := (Sl.of_own SP3.out.ho).tm hpl
                        generalize l[p].t = tp at q1
                        subst hL
                        have k0 : (0 : Int) ≤ (p : Int) := by omega
                        have k1 : (p : Int) < (l.length : Int) := by omega
                        have f9 : w3.frozen? ⟨gL, oL + p * 2 + 1, none⟩ = false := by
                          obtain ⟨_, hc9, _, h | ⟨g', o', e', _, h, _⟩⟩ := SP3.out.ho
                          · cases h.1
                          · injection e' with e'
                            injection e' with e1 e2
                            subst e1 e2
                            rw [Nat.add_assoc]
                            exact (h (p * 2 + 1) (by omega)).2
                        have hput := SP3.out.put hpl tm
                        rw [hpid, ← Nat.add_assoc] at hput
                        have S4 := Lib.hid (show St w (w3.setCell ⟨gL, oL + p * 2 + 1, none⟩ (.int .i64 tm)) g F3 now l2 (l.set p ⟨id, tm⟩) (some ⟨gL, oL, none⟩) cL from ⟨hput, HP.out, HS3.out, HN.out⟩)
                        have hsame := S4.out.same (by simp; omega)
                        rw [show (l.set p (⟨id, tm⟩ : Tm)).length = l.length by simp] at hsame
                        have HSame := Lib.hid hsame
                        clear p3 hp3 hs3 m3 f3 HX3 hperm hnd HIx HX HSet r0 r1 r2 HS hput hsame
                        clear hpid
                        go_wp2_with fail
                        with_reducible refine HSame.out.mono ?_
                        intro e w5 h5
                        obtain ⟨he5, hst5⟩ := h5
                        subst he5
                        have S5 := Lib.hid hst5
                        clear hst5 HSame S4 t1 t2
                        go_wp2_with fail
                        rw [← HA1.out]
                        go_roundg (60 - (i + 1))
                        case measure => omega
                        case rel => exact ⟨i + 1, now, l2, l.set p ⟨id, tm⟩, F3, some ⟨gL, oL, none⟩, cL, by omega, by omega, by simp; omega, rfl, by simp, by go_num, S5, by omega⟩
                · as_aux_lemma =>
                    have hg3 : ((decide (0 ≤ id) && decide (id < 64)) && timeB tm) = false := by simpa using hgood
                    have HSet := Lib.hid (set_bad g id tm wr (by
                      by_cases c1 : id < 0
                      · exact .inl c1
                      · by_cases c2 : 64 ≤ id
                        · exact .inr (.inl c2)
                        · rw [decide_eq_true (show 0 ≤ id by omega), decide_eq_true (show id < 64 by omega)] at hg3
                          exact .inr (.inr (by simpa using hg3))))
                    rw [hg3] at h12
                    subst h12
                    clear hgood hg3
                    go_wp2_with fail
                    with_reducible refine HSet.out.mono ?_
                    intro e w3 h3
                    obtain ⟨he3, m3⟩ := h3
                    subst he3
                    have S3 := Lib.hid (HS.out.none_ m3)
                    have HSame := Lib.hid (S3.out.same (by omega))
                    clear m3 r0 r1 r2 HS HX
                    go_wp2_with fail
                    with_reducible refine HSame.out.mono ?_
                    intro e w5 h5
                    obtain ⟨he5, hst5⟩ := h5
                    subst he5
                    have S5 := Lib.hid hst5
                    clear hst5 HSame S3
                    go_wp2_with fail
                    rw [← HA1.out]
                    go_roundg (60 - (i + 1))
                    case measure => omega
                    case rel => exact ⟨i + 1, now, lw, l, F, L, cL, by omega, by omega, by omega, rfl, rfl, by go_num, S5, by omega⟩
            · have HStop := Lib.hid (stop_any g F now lw id wr HS.out.hw)
              rcases HIx.out with ⟨rfl, hno⟩ | ⟨p, rfl, hp, hpl, hpid⟩
              · as_aux_lemma =>
                  obtain ⟨e1, e2⟩ := stop_none HS.out.hp (id := id) (fun q hq => hno q hq hq)
                  rw [e1, e2] at HStop
                  clear e1 e2 hno
                  go_wp2_with fail
                  with_reducible refine HStop.out.mono ?_
                  intro e w3 h3
                  obtain ⟨he3, p3, m3⟩ := h3
                  subst he3
                  have S3 := Lib.hid (show St w w3 g F now lw l L cL from ⟨HS.out.toSp.step p3 m3 (fun k h => .inl h), HS.out.hp, HS.out.hs, HS.out.hn⟩)
                  have HSame := Lib.hid (S3.out.same (by omega))
                  clear p3 m3 r0 r1 r2 HS HX HIx HStop
                  go_wp2_with fail
                  with_reducible refine HSame.out.mono ?_
                  intro e w5 h5
                  obtain ⟨he5, hst5⟩ := h5
                  subst he5
                  have S5 := Lib.hid hst5
                  clear hst5 HSame S3
                  go_wp2_with fail
                  rw [← HA1.out]
                  go_roundg (60 - (i + 1))
                  case measure => omega
                  case rel => exact ⟨i + 1, now, lw, l, F, L, cL, by omega, by omega, by omega, rfl, rfl, by go_num, S5, by omega⟩
              · as_aux_lemma =>
                  obtain ⟨e1, hperm, hnd⟩ := stop_law HS.out.hp HS.out.hn hpl hpid
                  rw [e1] at HStop
                  have HP := Lib.hid hperm
                  have HN := Lib.hid hnd
                  have HSo := Lib.hid (del_sorted HS.out.hs id)
                  obtain ⟨k0, k1, k2, k3, k3b, hw1, k4, k5, k6⟩ := cut_nums hpl HS.out.ho.2.1 (show l.length ≤ 60 by omega)
                  have HW1 := Lib.hid hw1
                  clear hw1
                  obtain ⟨gL, oL, hL, hgL⟩ := HS.out.ho.form (by omega)
                  subst hL
                  clear e1 hperm hnd hpid
                  go_wp2_with fail
                  with_reducible refine HStop.out.mono ?_
                  intro e w3 h3
                  obtain ⟨he3, p3, m3⟩ := h3
                  subst he3
                  have SP3 := Lib.hid (HS.out.toSp.step p3 m3 (fun k h => .inl h))
                  clear p3 m3 r0 r1 r2 HS HX HIx HStop
                  have OT := Lib.hid (SP3.out.ho.cut1 (Nat.le_of_lt hpl))
                  obtain ⟨p1, hp1, hw2, k7, k8, k9⟩ := next_num hpl (show l.length ≤ 60 by omega)
                  have OD := Lib.hid (SP3.out.ho.cut2 k9)
                  have HP1 := Lib.hid hp1
                  clear hp1
                  have hbl2 : ∀ q, blk (some (⟨gL, oL, none⟩ : Addr)) = some q → w.heap.size ≤ q ∧ ¬ F q := SP3.out.lf
                  have HLf := Lib.hid hbl2
                  clear hbl2
                  have hbd : p + (l.length - p1) ≤ 1000 := by omega
                  go_wp2_with fail
                  refine wp_region_held_drew (S := (fun _ => True)) (by kernel_rfl) (by trivial) (fun hHeld => ?_)
                  refine wpAnyH_take (i := 0) (oi := _) (v := ?_) (by simp only [List.getElem?_toArray, List.getElem?_cons_succ, List.getElem?_cons_zero]; rfl) (by kernel_rfl) (by kernel_rfl) (by kernel_rfl) (by intro _ _ _ h; exact h) (Or.inl ⟨by rfl, ?_⟩) (by assumption) ?_
                  rotate_left 1
                  · (intro w hSw; (try dsimp only at hSw); go_simp; try with_reducible rfl)
                  try simp only [Act.put, List.setIfInBounds_toArray, List.set_cons_zero, List.set_cons_succ]
                  refine wpAnyH_take (i := 1) (oi := _) (v := ?_) (by simp only [List.getElem?_toArray, List.getElem?_cons_succ, List.getElem?_cons_zero]; rfl) (by kernel_rfl) (by kernel_rfl) (by kernel_rfl) (by intro _ _ _ h; exact h) (Or.inl ⟨by rfl, ?_⟩) (by assumption) ?_
                  rotate_left 1
                  · (intro w hSw; (try dsimp only at hSw); go_simp; try with_reducible rfl)
                  try simp only [Act.put, List.setIfInBounds_toArray, List.set_cons_zero, List.set_cons_succ]
                  refine wpAnyH_take (i := 2) (oi := _) (v := ?_) (by simp only [List.getElem?_toArray, List.getElem?_cons_succ, List.getElem?_cons_zero]; rfl) (by kernel_rfl) (by kernel_rfl) (by kernel_rfl) (by intro _ _ _ h; exact h) (Or.inl ⟨by rfl, ?_⟩) (by assumption) ?_
                  rotate_left 1
                  · (intro w hSw; (try dsimp only at hSw); go_simp; try with_reducible rfl)
                  try simp only [Act.put, List.setIfInBounds_toArray, List.set_cons_zero, List.set_cons_succ]
                  refine wpAnyH_take (i := 3) (oi := _) (v := ?_) (by simp only [List.getElem?_toArray, List.getElem?_cons_succ, List.getElem?_cons_zero]; rfl) (by kernel_rfl) (by kernel_rfl) (by kernel_rfl) (by intro _ _ _ h; exact h) (Or.inl ⟨by rfl, ?_⟩) (by assumption) ?_
                  rotate_left 1
                  · (intro w hSw; (try dsimp only at hSw); go_simp; try with_reducible rfl)
                  try simp only [Act.put, List.setIfInBounds_toArray, List.set_cons_zero, List.set_cons_succ]
                  refine wpAnyH_take (i := 4) (oi := _) (v := ?_) (by simp only [List.getElem?_toArray, List.getElem?_cons_succ, List.getElem?_cons_zero]; rfl) (by kernel_rfl) (by kernel_rfl) (by kernel_rfl) (by intro _ _ _ h; exact h) (Or.inl ⟨by rfl, ?_⟩) (by assumption) ?_
                  rotate_left 1
                  · (intro w hSw; (try dsimp only at hSw); go_simp; try with_reducible rfl)
                  try simp only [Act.put, List.setIfInBounds_toArray, List.set_cons_zero, List.set_cons_succ]
                  refine wpAnyH_take (i := 5) (oi := _) (v := ?_) (by simp only [List.getElem?_toArray, List.getElem?_cons_succ, List.getElem?_cons_zero]; rfl) (by kernel_rfl) (by kernel_rfl) (by kernel_rfl) (by intro _ _ _ h; exact h) (Or.inl ⟨by rfl, ?_⟩) (by assumption) ?_
                  rotate_left 1
                  · (intro w hSw; (try dsimp only at hSw); go_simp; try with_reducible rfl)
                  try simp only [Act.put, List.setIfInBounds_toArray, List.set_cons_zero, List.set_cons_succ]
                  refine wpAnyH_take (i := 6) (oi := _) (v := ?_) (by simp only [List.getElem?_toArray, List.getElem?_cons_succ, List.getElem?_cons_zero]; rfl) (by kernel_rfl) (by kernel_rfl) (by kernel_rfl) (by intro _ _ _ h; exact h) (Or.inl ⟨by rfl, ?_⟩) (by assumption) ?_
                  rotate_left 1
                  · (intro w hSw; (try dsimp only at hSw); go_simp; try with_reducible rfl)
                  try simp only [Act.put, List.setIfInBounds_toArray, List.set_cons_zero, List.set_cons_succ]
                  refine wpAnyH_take (i := 7) (oi := _) (v := ?_) (by simp only [List.getElem?_toArray, List.getElem?_cons_succ, List.getElem?_cons_zero]; rfl) (by kernel_rfl) (by kernel_rfl) (by kernel_rfl) (by intro _ _ _ h; exact h) (Or.inl ⟨by rfl, ?_⟩) (by assumption) ?_
                  rotate_left 1
                  · (intro w hSw; (try dsimp only at hSw); go_simp; try with_reducible rfl)
                  try simp only [Act.put, List.setIfInBounds_toArray, List.set_cons_zero, List.set_cons_succ]
                  refine wpAnyH_ready (rs := [8]) (by kernel_rfl) (by simp) ?_
                  refine AllReadyH.cons (by simp only [List.getElem?_toArray, List.getElem?_cons_succ, List.getElem?_cons_zero]; rfl) (fun K hK => ?_) AllReadyH.nil
                  (refine step_app _ (by rfl) (.tmp 232) (.tmp 236) (by rfl) (by rfl) OT.out.drew (by rfl) (Sl.of_own OD.out.drew) hbd ?_; intro L4 c4 w4 ho4 hg4 hb4)
                  refine hK.out _ _ (by trivial) (fun hHeld => ?_)
                  clear hK K
                  try simp only [Act.put, List.setIfInBounds_toArray, List.set_cons_zero, List.set_cons_succ]
                  refine wpAnyH_take (i := 9) (oi := _) (v := ?_) (by simp only [List.getElem?_toArray, List.getElem?_cons_succ, List.getElem?_cons_zero]; rfl) (by kernel_rfl) (by kernel_rfl) (by kernel_rfl) (by intro _ _ _ h; exact h) (Or.inl ⟨by rfl, ?_⟩) (by assumption) ?_
                  rotate_left 1
                  · (intro w hSw; (try dsimp only at hSw); go_simp; try with_reducible rfl)
                  try simp only [Act.put, List.setIfInBounds_toArray, List.set_cons_zero, List.set_cons_succ]
                  refine wpAnyH_done (by kernel_rfl) ?_ _
                  have S5 : Hid (St w w4 g F now (del lw id) (l.take p ++ l.drop (p + 1)) L4 c4) := Lib.hid ⟨SP3.out.cutout HLf.out (by first | exact (Mod.refl _ _).grown hg4 (fun q e => .inl (Option.some.inj e).symm) | exact ((Mod.refl _ _).drew).grown hg4 (fun q e => .inl (Option.some.inj e).symm)) hb4 (by rw [← HP1.out]; exact ho4) (by omega), HP.out, HSo.out, HN.out⟩
                  obtain ⟨hl4, hl5⟩ := cut_len hpl HP1.out
                  have hsame := S5.out.same (Nat.le_trans hl5 (by omega))
                  rw [hl4] at hsame
                  have HSame := Lib.hid hsame
                  have HL4 := Lib.hid hl4
                  have HL5 := Lib.hid hl5
                  clear hsame ho4 hg4 hb4 hl4 hl5
                  go_wp2_with fail
                  all_goals
                    with_reducible refine HSame.out.mono ?_
                    intro e w5 h5
                    obtain ⟨he5, hst5⟩ := h5
                    subst he5
                    have S6 := Lib.hid hst5
                    clear hst5 HSame S5
                    go_wp2_with fail
                    rw [← HA1.out]
                    go_roundg (60 - (i + 1))
                    case measure => omega
                    case rel => exact ⟨i + 1, now, del lw id, l.take p ++ l.drop (p + 1), F, L4, c4, by omega, by omega, Nat.le_trans HL5.out (by omega), rfl, by rw [HL4.out], by go_num, S6, by omega⟩
            · by_cases hgo : timeB tm = true ∧ now ≤ tm
              · as_aux_lemma =>
                  obtain ⟨ht, hge⟩ := hgo
                  have HGo := Lib.hid (go_ok g F now tm lw wr HS.out.hw (by omega) ht hge)
                  have HT := Lib.hid ht
                  clear ht HIx
                  go_wp2_with fail
                  with_reducible refine HGo.out.mono ?_
                  intro e w3 h3
                  obtain ⟨mm, B, d, hm1, hm2, hm3, he3, ob, p3, m3, fb⟩ := h3
                  subst he3
                  have SP3 := Lib.hid (HS.out.toSp.step p3 m3 (fun k h => .inl h))
                  have HX3 := HX.out.mod m3 (fun h => hxF.out x h rfl)
                  have t2 : w3.cell? ⟨x, 2, none⟩ = some (.int .i64 tm) := HX3.1 2 _ rfl
                  have OB := Lib.hid ob
                  have HM2 := Lib.hid hm2
                  have HM3 := Lib.hid hm3
                  have HPS := Lib.hid (And.intro HS.out.hp (And.intro HS.out.hs HS.out.hn))
                  have HTi : Hid (Calls Try.prog 10 #[.int .i64 tm] w3 fun e w' => e = .returned (.bool true) ∧ w3 = w') := Lib.hid (by have h := timeR tm w3; rw [HT.out] at h; exact h)
                  clear p3 m3 r0 r1 r2 HS HX HX3 HGo ob hm2 hm3 fb
                  go_wp2_with fail
                  with_reducible refine HTi.out.mono ?_
                  rintro e w4 ⟨rfl, rfl⟩
                  clear HTi
                  go_wp2_with fail
                  go_loopg [14, 15, 16, 17] l.length (fun m' v14 v15 v16 v17 wr => ∃ (k : Nat) (off : List Tm) (A1 A2 : Option Addr) (c1 c2 n1 : Nat), k ≤ l.length ∧ Hid ((stay tm (l.take k)).length = n1) ∧ v14 = .slice A1 n1 c1 ∧ v15 = .slice A2 off.length c2 ∧ v16 = .int .i64 k ∧ Hid (Gs w3 wr tm l k A1 c1 A2 c2 off) ∧ m' + k = l.length)
                  case atStart => exact ⟨0, [], none, none, 0, 0, 0, by omega, Lib.hid (by simp [stay]), rfl, rfl, rfl, Lib.hid (Gs.start w3 tm l), by omega⟩
                  case round =>
                    obtain ⟨k, off, A1, A2, c1, c2, n1, hk, hn1, rfl, rfl, rfl, HG, hm'⟩ := hrel
                    have n1l : n1 ≤ l.length := by rw [← hn1.out]; exact stay_len _ _ _
                    have ofl : off.length ≤ l.length := gone_len HG.out.p
                    by_cases hkl : k < l.length
                    · obtain ⟨gL, oL, hL, hgL, q0, q1⟩ := (Sl.of_own (SP3.out.ho.mod HG.out.m (by simp))).tm hkl
                      have HL := Lib.hid hL
                      have k0 : (0 : Int) ≤ (k : Int) := by omega
                      have k1 : (k : Int) < (l.length : Int) := by omega
                      have O1 : Hid (Own wr 2 A1 n1 c1 (tc (stay tm (l.take k)))) := Lib.hid (by have h := HG.out.o1; rw [hn1.out] at h; exact h)
                      generalize hy : l[k] = y at q0 q1
                      have HY := Lib.hid hy
                      clear hy
                      obtain ⟨yi, yt⟩ := y
                      simp only [] at q0 q1
                      rw [hL]
                      clear hL
                      by_cases hlt : tm < yt
                      · as_aux_lemma =>
                          go_wp2_with (at_builtin; refine wpList_append_Own _ rfl _ _ _ rfl 31 i0 _ 2 16 Try.underlying27 HI.out HZ0.out HZ1.out HZ2.out rfl (by decide) A1 n1 c1 _ rfl (O1.out.alloc _) ⟨wr.heap.size, 0, none⟩ 1 1 (⟨yi, yt⟩ : Tm).cells rfl rfl (World.news_of_block (heap_alloc_new _ _)) (Tm.one ⟨yi, yt⟩) (by decide) (by unfold maxLen; omega) (by omega) ?_; intro A4 c4 w4 ho4 hg4 hb4; have hst := HG.out.stay_ hkl (by rw [HY.out]; exact hlt) (by rw [HY.out, hn1.out]; exact ho4) hg4 hb4; have HG4 := Lib.hid hst.1; have HN4 := Lib.hid hst.2; clear ho4 hg4 hb4 hst)
                          rw [← HL.out]
                          go_roundg (l.length - (k + 1))
                          case measure => omega
                          case rel => exact ⟨k + 1, off, A4, A2, c4, c2, n1 + 1, by omega, Lib.hid (by rw [HN4.out, hn1.out]), rfl, rfl, by go_num, HG4, by omega⟩
                      · as_aux_lemma =>
                          have HLT := Lib.hid hlt
                          go_wp2_with fail
                          go_loopg [17] off.length (fun m'' v17 wx => ∃ j : Nat, j ≤ off.length ∧ v17 = .int .i64 j ∧ Hid (∀ q (h : q < off.length), q < j → ltOf cf off[q] ⟨yi, yt⟩ = true) ∧ Hid (Mod (fun _ => False) wr wx) ∧ m'' + j = off.length)
                          case atStart => exact ⟨0, by omega, rfl, Lib.hid (fun q _ h => absurd h (by omega)), Lib.hid (Mod.refl _ _), by omega⟩
                          case round =>
                            obtain ⟨j, hj, rfl, HJ, HMj, hm''⟩ := hrel
                            have HG2 := Lib.hid (HG.out.none_ HMj.out)
                            have z0 := HMj.out.cell q0 (by simp)
                            have z1 := HMj.out.cell q1 (by simp)
                            clear q0 q1
                            by_cases hjl : j < off.length
                            · obtain ⟨gO, oO, hO, hgO, y0, y1⟩ := (Sl.of_own HG2.out.o2).tm hjl
                              have HO := Lib.hid hO
                              have jj0 : (0 : Int) ≤ (j : Int) := by omega
                              have jj1 : (j : Int) < (off.length : Int) := by omega
                              have HN := Lib.hid (lt_next HJ.out hjl)
                              generalize hu : off[j] = u at y0 y1
                              have HU := Lib.hid hu
                              clear hu
                              obtain ⟨ui, ut⟩ := u
                              simp only [] at y0 y1
                              rw [hO]
                              clear hO
                              rcases (show ut < yt ∨ (yt = ut ∧ ui < yi) ∨ yt < ut ∨ (yt = ut ∧ yi ≤ ui) by omega) with e1 | ⟨e1, e2⟩ | e1 | ⟨e1, e2⟩
                              · as_aux_lemma =>
                                  have HN2 := Lib.hid (HN.out (by rw [HU.out]; exact lt_of1 e1))
                                  go_wp2_with fail
                                  go_quiet (fail)
                                  go_wp2_with fail
                                  rw [← HO.out]
                                  go_roundg (off.length - (j + 1))
                                  case measure => omega
                                  case rel => exact ⟨j + 1, by omega, by go_num, HN2, Lib.hid (HMj.out.drewN _), by omega⟩
                              · as_aux_lemma =>
                                  have HN2 := Lib.hid (HN.out (by rw [HU.out]; exact lt_of2 e1.symm e2))
                                  subst e1
                                  go_wp2_with fail
                                  go_quiet (fail)
                                  go_wp2_with fail
                                  rw [← HO.out]
                                  go_roundg (off.length - (j + 1))
                                  case measure => omega
                                  case rel => exact ⟨j + 1, by omega, by go_num, HN2, Lib.hid (HMj.out.drewN _), by omega⟩
                              · as_aux_lemma =>
                                  have D1 := Lib.hid (show ¬ ut < yt by omega)
                                  have D2 := Lib.hid (show ¬ ut = yt by omega)
                                  have D3 := Lib.hid (show (ut == yt) = false by have := D2.out; simpa using this)
                                  have D4 := Lib.hid (decide_eq_false D1.out)
                                  have D5 := Lib.hid (decide_eq_false D2.out)
                                  have HJ2 := Lib.hid (show ∀ h : j < off.length, ltOf cf off[j] ⟨yi, yt⟩ = false from fun _ => by rw [HU.out]; exact lt_of3 e1)
                                  have OT := Lib.hid (HG2.out.o2.cut1 hj)
                                  have OD := Lib.hid (HG2.out.o2.cut3 hj)
                                  have hcc := HG2.out.o2.2.1
                                  have v1 : (j : Int) ≤ (off.length : Int) := by omega
                                  have v2 : (j : Int) ≤ (c2 : Int) := by omega
                                  have v3 : (off.length : Int) ≤ (c2 : Int) := by omega
                                  have v4 : (0 : Int) ≤ (j : Int) := by omega
                                  have hbd1 : 1 + (off.length - j) ≤ 1000 := by omega
                                  go_wp2_with fail
                                  have d1 := D1.out
                                  have d2 := D2.out
                                  have d3 := D3.out
                                  refine wp_region_held_drew (S := (fun w' => w'.cell? ⟨gO, oO + j * 2, none⟩ = some (.int .i64 ui) ∧ w'.cell? ⟨gO, oO + j * 2 + 1, none⟩ = some (.int .i64 ut) ∧ w'.cell? ⟨gL, oL + k * 2, none⟩ = some (.int .i64 yi) ∧ w'.cell? ⟨gL, oL + k * 2 + 1, none⟩ = some (.int .i64 yt))) (by kernel_rfl) (by go_keep) (fun hHeld => ?_)
                                  refine wpAnyH_take (i := 0) (oi := _) (v := ?_) (by simp only [List.getElem?_toArray, List.getElem?_cons_succ, List.getElem?_cons_zero]; rfl) (by kernel_rfl) (by kernel_rfl) (by kernel_rfl) (by intro _ _ _ h; exact h) (Or.inl ⟨by rfl, ?_⟩) (by assumption) ?_
                                  rotate_left 1
                                  · (intro w hSw; (try dsimp only at hSw); go_simp; (try simp only [D4.out, D5.out, D3.out]); try with_reducible rfl)
                                  try simp only [Act.put, List.setIfInBounds_toArray, List.set_cons_zero, List.set_cons_succ]
                                  refine wpAnyH_take (i := 1) (oi := _) (v := ?_) (by simp only [List.getElem?_toArray, List.getElem?_cons_succ, List.getElem?_cons_zero]; rfl) (by kernel_rfl) (by kernel_rfl) (by kernel_rfl) (by intro _ _ _ h; exact h) (Or.inl ⟨by rfl, ?_⟩) (by assumption) ?_
                                  rotate_left 1
                                  · (intro w hSw; (try dsimp only at hSw); go_simp; (try simp only [D4.out, D5.out, D3.out]); try with_reducible rfl)
                                  try simp only [Act.put, List.setIfInBounds_toArray, List.set_cons_zero, List.set_cons_succ]
                                  refine wpAnyH_take (i := 2) (oi := _) (v := ?_) (by simp only [List.getElem?_toArray, List.getElem?_cons_succ, List.getElem?_cons_zero]; rfl) (by kernel_rfl) (by kernel_rfl) (by kernel_rfl) (by intro _ _ _ h; exact h) (Or.inl ⟨by rfl, ?_⟩) (by assumption) ?_
                                  rotate_left 1
                                  · (intro w hSw; (try dsimp only at hSw); go_simp; (try simp only [D4.out, D5.out, D3.out]); try with_reducible rfl)
                                  try simp only [Act.put, List.setIfInBounds_toArray, List.set_cons_zero, List.set_cons_succ]
                                  refine wpAnyH_take (i := 3) (oi := _) (v := ?_) (by simp only [List.getElem?_toArray, List.getElem?_cons_succ, List.getElem?_cons_zero]; rfl) (by kernel_rfl) (by kernel_rfl) (by kernel_rfl) (by intro _ _ _ h; exact h) (Or.inl ⟨by rfl, ?_⟩) (by assumption) ?_
                                  rotate_left 1
                                  · (intro w hSw; (try dsimp only at hSw); go_simp; (try simp only [D4.out, D5.out, D3.out]); try with_reducible rfl)
                                  try simp only [Act.put, List.setIfInBounds_toArray, List.set_cons_zero, List.set_cons_succ]
                                  refine wpAnyH_take (i := 4) (oi := _) (v := ?_) (by simp only [List.getElem?_toArray, List.getElem?_cons_succ, List.getElem?_cons_zero]; rfl) (by kernel_rfl) (by kernel_rfl) (by kernel_rfl) (by intro _ _ _ h; exact h) (Or.inl ⟨by rfl, ?_⟩) (by assumption) ?_
                                  rotate_left 1
                                  · (intro w hSw; (try dsimp only at hSw); go_simp; (try simp only [D4.out, D5.out, D3.out]); try with_reducible rfl)
                                  try simp only [Act.put, List.setIfInBounds_toArray, List.set_cons_zero, List.set_cons_succ]
                                  refine wpAnyH_take (i := 5) (oi := _) (v := ?_) (by simp only [List.getElem?_toArray, List.getElem?_cons_succ, List.getElem?_cons_zero]; rfl) (by kernel_rfl) (by kernel_rfl) (by kernel_rfl) (by intro _ _ _ h; exact h) (Or.inl ⟨by rfl, ?_⟩) (by assumption) ?_
                                  rotate_left 1
                                  · (intro w hSw; (try dsimp only at hSw); go_simp; (try simp only [D4.out, D5.out, D3.out]); try with_reducible rfl)
                                  try simp only [Act.put, List.setIfInBounds_toArray, List.set_cons_zero, List.set_cons_succ]
                                  refine wpAnyH_take (i := 6) (oi := _) (v := ?_) (by simp only [List.getElem?_toArray, List.getElem?_cons_succ, List.getElem?_cons_zero]; rfl) (by kernel_rfl) (by kernel_rfl) (by kernel_rfl) (by intro _ _ _ h; exact h) (Or.inl ⟨by rfl, ?_⟩) (by assumption) ?_
                                  rotate_left 1
                                  · (intro w hSw; (try dsimp only at hSw); go_simp; (try simp only [D4.out, D5.out, D3.out]); try with_reducible rfl)
                                  try simp only [Act.put, List.setIfInBounds_toArray, List.set_cons_zero, List.set_cons_succ]
                                  refine wpAnyH_take (i := 7) (oi := _) (v := ?_) (by simp only [List.getElem?_toArray, List.getElem?_cons_succ, List.getElem?_cons_zero]; rfl) (by kernel_rfl) (by kernel_rfl) (by kernel_rfl) (by intro _ _ _ h; exact h) (Or.inl ⟨by rfl, ?_⟩) (by assumption) ?_
                                  rotate_left 1
                                  · (intro w hSw; (try dsimp only at hSw); go_simp; (try simp only [D4.out, D5.out, D3.out]); try with_reducible rfl)
                                  try simp only [Act.put, List.setIfInBounds_toArray, List.set_cons_zero, List.set_cons_succ]
                                  refine wpAnyH_take (i := 8) (oi := _) (v := ?_) (by simp only [List.getElem?_toArray, List.getElem?_cons_succ, List.getElem?_cons_zero]; rfl) (by kernel_rfl) (by kernel_rfl) (by kernel_rfl) (by intro _ _ _ h; exact h) (Or.inl ⟨by rfl, ?_⟩) (by assumption) ?_
                                  rotate_left 1
                                  · (intro w hSw; (try dsimp only at hSw); go_simp; (try simp only [D4.out, D5.out, D3.out]); try with_reducible rfl)
                                  try simp only [Act.put, List.setIfInBounds_toArray, List.set_cons_zero, List.set_cons_succ]
                                  refine wpAnyH_take (i := 9) (oi := _) (v := ?_) (by simp only [List.getElem?_toArray, List.getElem?_cons_succ, List.getElem?_cons_zero]; rfl) (by kernel_rfl) (by kernel_rfl) (by kernel_rfl) (by intro _ _ _ h; exact h) (Or.inl ⟨by rfl, ?_⟩) (by assumption) ?_
                                  rotate_left 1
                                  · (intro w hSw; (try dsimp only at hSw); go_simp; (try simp only [D4.out, D5.out, D3.out]); try with_reducible rfl)
                                  try simp only [Act.put, List.setIfInBounds_toArray, List.set_cons_zero, List.set_cons_succ]
                                  refine wpAnyH_take (i := 10) (oi := _) (v := ?_) (by simp only [List.getElem?_toArray, List.getElem?_cons_succ, List.getElem?_cons_zero]; rfl) (by kernel_rfl) (by kernel_rfl) (by kernel_rfl) (by intro _ _ _ h; exact h) (Or.inl ⟨by rfl, ?_⟩) (by assumption) ?_
                                  rotate_left 1
                                  · (intro w hSw; (try dsimp only at hSw); go_simp; (try simp only [D4.out, D5.out, D3.out]); try with_reducible rfl)
                                  try simp only [Act.put, List.setIfInBounds_toArray, List.set_cons_zero, List.set_cons_succ]
                                  refine wpAnyH_take (i := 11) (oi := _) (v := ?_) (by simp only [List.getElem?_toArray, List.getElem?_cons_succ, List.getElem?_cons_zero]; rfl) (by kernel_rfl) (by kernel_rfl) (by kernel_rfl) (by intro _ _ _ h; exact h) (Or.inl ⟨by rfl, ?_⟩) (by assumption) ?_
                                  rotate_left 1
                                  · (intro w hSw; (try dsimp only at hSw); go_simp; (try simp only [D4.out, D5.out, D3.out]); try with_reducible rfl)
                                  try simp only [Act.put, List.setIfInBounds_toArray, List.set_cons_zero, List.set_cons_succ]
                                  refine wpAnyH_take (i := 12) (oi := _) (v := ?_) (by simp only [List.getElem?_toArray, List.getElem?_cons_succ, List.getElem?_cons_zero]; rfl) (by kernel_rfl) (by kernel_rfl) (by kernel_rfl) (by intro _ _ _ h; exact h) (Or.inl ⟨by rfl, ?_⟩) (by assumption) ?_
                                  rotate_left 1
                                  · (intro w hSw; (try dsimp only at hSw); go_simp; (try simp only [D4.out, D5.out, D3.out]); try with_reducible rfl)
                                  try simp only [Act.put, List.setIfInBounds_toArray, List.set_cons_zero, List.set_cons_succ]
                                  refine wpAnyH_take (i := 13) (oi := _) (v := ?_) (by simp only [List.getElem?_toArray, List.getElem?_cons_succ, List.getElem?_cons_zero]; rfl) (by kernel_rfl) (by kernel_rfl) (by kernel_rfl) (by intro _ _ _ h; exact h) (Or.inl ⟨by rfl, ?_⟩) (by assumption) ?_
                                  rotate_left 1
                                  · (intro w hSw; (try dsimp only at hSw); go_simp; (try simp only [D4.out, D5.out, D3.out]); try with_reducible rfl)
                                  try simp only [Act.put, List.setIfInBounds_toArray, List.set_cons_zero, List.set_cons_succ]
                                  refine wpAnyH_take (i := 14) (oi := _) (v := ?_) (by simp only [List.getElem?_toArray, List.getElem?_cons_succ, List.getElem?_cons_zero]; rfl) (by kernel_rfl) (by kernel_rfl) (by kernel_rfl) (by intro _ _ _ h; exact h) (Or.inl ⟨by rfl, ?_⟩) (by assumption) ?_
                                  rotate_left 1
                                  · (intro w hSw; (try dsimp only at hSw); go_simp; (try simp only [D4.out, D5.out, D3.out]); try with_reducible rfl)
                                  try simp only [Act.put, List.setIfInBounds_toArray, List.set_cons_zero, List.set_cons_succ]
                                  refine wpAnyH_take (i := 15) (oi := _) (v := ?_) (by simp only [List.getElem?_toArray, List.getElem?_cons_succ, List.getElem?_cons_zero]; rfl) (by kernel_rfl) (by kernel_rfl) (by kernel_rfl) (by intro _ _ _ h; exact h) (Or.inl ⟨by rfl, ?_⟩) (by assumption) ?_
                                  rotate_left 1
                                  · (intro w hSw; (try dsimp only at hSw); go_simp; (try simp only [D4.out, D5.out, D3.out]); try with_reducible rfl)
                                  try simp only [Act.put, List.setIfInBounds_toArray, List.set_cons_zero, List.set_cons_succ]
                                  refine wpAnyH_take (i := 16) (oi := _) (v := ?_) (by simp only [List.getElem?_toArray, List.getElem?_cons_succ, List.getElem?_cons_zero]; rfl) (by kernel_rfl) (by kernel_rfl) (by kernel_rfl) (by intro _ _ _ h; exact h) (Or.inl ⟨by rfl, ?_⟩) (by assumption) ?_
                                  rotate_left 1
                                  · (intro w hSw; (try dsimp only at hSw); go_simp; (try simp only [D4.out, D5.out, D3.out]); try with_reducible rfl)
                                  try simp only [Act.put, List.setIfInBounds_toArray, List.set_cons_zero, List.set_cons_succ]
                                  refine wpAnyH_take (i := 17) (oi := _) (v := ?_) (by simp only [List.getElem?_toArray, List.getElem?_cons_succ, List.getElem?_cons_zero]; rfl) (by kernel_rfl) (by kernel_rfl) (by kernel_rfl) (by intro _ _ _ h; exact h) (Or.inl ⟨by rfl, ?_⟩) (by assumption) ?_
                                  rotate_left 1
                                  · (intro w hSw; (try dsimp only at hSw); go_simp; (try simp only [D4.out, D5.out, D3.out]); try with_reducible rfl)
                                  try simp only [Act.put, List.setIfInBounds_toArray, List.set_cons_zero, List.set_cons_succ]
                                  refine wpAnyH_take (i := 18) (oi := _) (v := ?_) (by simp only [List.getElem?_toArray, List.getElem?_cons_succ, List.getElem?_cons_zero]; rfl) (by kernel_rfl) (by kernel_rfl) (by kernel_rfl) (by intro _ _ _ h; exact h) (Or.inl ⟨by rfl, ?_⟩) (by assumption) ?_
                                  rotate_left 1
                                  · (intro w hSw; (try dsimp only at hSw); go_simp; (try simp only [D4.out, D5.out, D3.out]); try with_reducible rfl)
                                  try simp only [Act.put, List.setIfInBounds_toArray, List.set_cons_zero, List.set_cons_succ]
                                  refine wpAnyH_take (i := 19) (oi := _) (v := ?_) (by simp only [List.getElem?_toArray, List.getElem?_cons_succ, List.getElem?_cons_zero]; rfl) (by kernel_rfl) (by kernel_rfl) (by kernel_rfl) (by intro _ _ _ h; exact h) (Or.inl ⟨by rfl, ?_⟩) (by assumption) ?_
                                  rotate_left 1
                                  · (intro w hSw; (try dsimp only at hSw); go_simp; (try simp only [D4.out, D5.out, D3.out]); try with_reducible rfl)
                                  try simp only [Act.put, List.setIfInBounds_toArray, List.set_cons_zero, List.set_cons_succ]
                                  refine wpAnyH_take (i := 20) (oi := _) (v := ?_) (by simp only [List.getElem?_toArray, List.getElem?_cons_succ, List.getElem?_cons_zero]; rfl) (by kernel_rfl) (by kernel_rfl) (by kernel_rfl) (by intro _ _ _ h; exact h) (Or.inl ⟨by rfl, ?_⟩) (by assumption) ?_
                                  rotate_left 1
                                  · (intro w hSw; (try dsimp only at hSw); go_simp; (try simp only [D4.out, D5.out, D3.out]); try with_reducible rfl)
                                  try simp only [Act.put, List.setIfInBounds_toArray, List.set_cons_zero, List.set_cons_succ]
                                  refine wpAnyH_take (i := 21) (oi := _) (v := ?_) (by simp only [List.getElem?_toArray, List.getElem?_cons_succ, List.getElem?_cons_zero]; rfl) (by kernel_rfl) (by kernel_rfl) (by kernel_rfl) (by intro _ _ _ h; exact h) (Or.inl ⟨by rfl, ?_⟩) (by assumption) ?_
                                  rotate_left 1
                                  · (intro w hSw; (try dsimp only at hSw); go_simp; (try simp only [D4.out, D5.out, D3.out]); try with_reducible rfl)
                                  try simp only [Act.put, List.setIfInBounds_toArray, List.set_cons_zero, List.set_cons_succ]
                                  refine wpAnyH_take (i := 22) (oi := _) (v := ?_) (by simp only [List.getElem?_toArray, List.getElem?_cons_succ, List.getElem?_cons_zero]; rfl) (by kernel_rfl) (by kernel_rfl) (by kernel_rfl) (by intro _ _ _ h; exact h) (Or.inl ⟨by rfl, ?_⟩) (by assumption) ?_
                                  rotate_left 1
                                  · (intro w hSw; (try dsimp only at hSw); go_simp; (try simp only [D4.out, D5.out, D3.out]); try with_reducible rfl)
                                  try simp only [Act.put, List.setIfInBounds_toArray, List.set_cons_zero, List.set_cons_succ]
                                  refine wpAnyH_take (i := 23) (oi := _) (v := ?_) (by simp only [List.getElem?_toArray, List.getElem?_cons_succ, List.getElem?_cons_zero]; rfl) (by kernel_rfl) (by kernel_rfl) (by kernel_rfl) (by intro _ _ _ h; exact h) (Or.inl ⟨by rfl, ?_⟩) (by assumption) ?_
                                  rotate_left 1
                                  · (intro w hSw; (try dsimp only at hSw); go_simp; (try simp only [D4.out, D5.out, D3.out]); try with_reducible rfl)
                                  try simp only [Act.put, List.setIfInBounds_toArray, List.set_cons_zero, List.set_cons_succ]
                                  refine wpAnyH_take (i := 24) (oi := _) (v := ?_) (by simp only [List.getElem?_toArray, List.getElem?_cons_succ, List.getElem?_cons_zero]; rfl) (by kernel_rfl) (by kernel_rfl) (by kernel_rfl) (by intro _ _ _ h; exact h) (Or.inl ⟨by rfl, ?_⟩) (by assumption) ?_
                                  rotate_left 1
                                  · (intro w hSw; (try dsimp only at hSw); go_simp; (try simp only [D4.out, D5.out, D3.out]); try with_reducible rfl)
                                  try simp only [Act.put, List.setIfInBounds_toArray, List.set_cons_zero, List.set_cons_succ]
                                  refine wpAnyH_take (i := 25) (oi := _) (v := ?_) (by simp only [List.getElem?_toArray, List.getElem?_cons_succ, List.getElem?_cons_zero]; rfl) (by kernel_rfl) (by kernel_rfl) (by kernel_rfl) (by intro _ _ _ h; exact h) (Or.inl ⟨by rfl, ?_⟩) (by assumption) ?_
                                  rotate_left 1
                                  · (intro w hSw; (try dsimp only at hSw); go_simp; (try simp only [D4.out, D5.out, D3.out]); try with_reducible rfl)
                                  try simp only [Act.put, List.setIfInBounds_toArray, List.set_cons_zero, List.set_cons_succ]
                                  refine wpAnyH_take (i := 26) (oi := _) (v := ?_) (by simp only [List.getElem?_toArray, List.getElem?_cons_succ, List.getElem?_cons_zero]; rfl) (by kernel_rfl) (by kernel_rfl) (by kernel_rfl) (by intro _ _ _ h; exact h) (Or.inl ⟨by rfl, ?_⟩) (by assumption) ?_
                                  rotate_left 1
                                  · (intro w hSw; (try dsimp only at hSw); go_simp; (try simp only [D4.out, D5.out, D3.out]); try with_reducible rfl)
                                  try simp only [Act.put, List.setIfInBounds_toArray, List.set_cons_zero, List.set_cons_succ]
                                  refine wpAnyH_take (i := 27) (oi := _) (v := ?_) (by simp only [List.getElem?_toArray, List.getElem?_cons_succ, List.getElem?_cons_zero]; rfl) (by kernel_rfl) (by kernel_rfl) (by kernel_rfl) (by intro _ _ _ h; exact h) (Or.inl ⟨by rfl, ?_⟩) (by assumption) ?_
                                  rotate_left 1
                                  · (intro w hSw; (try dsimp only at hSw); go_simp; (try simp only [D4.out, D5.out, D3.out]); try with_reducible rfl)
                                  try simp only [Act.put, List.setIfInBounds_toArray, List.set_cons_zero, List.set_cons_succ]
                                  refine wpAnyH_take (i := 28) (oi := _) (v := ?_) (by simp only [List.getElem?_toArray, List.getElem?_cons_succ, List.getElem?_cons_zero]; rfl) (by kernel_rfl) (by kernel_rfl) (by kernel_rfl) (by intro _ _ _ h; exact h) (Or.inl ⟨by rfl, ?_⟩) (by assumption) ?_
                                  rotate_left 1
                                  · (intro w hSw; (try dsimp only at hSw); go_simp; (try simp only [D4.out, D5.out, D3.out]); try with_reducible rfl)
                                  try simp only [Act.put, List.setIfInBounds_toArray, List.set_cons_zero, List.set_cons_succ]
                                  refine wpAnyH_take (i := 29) (oi := _) (v := undef) (by simp only [List.getElem?_toArray, List.getElem?_cons_succ, List.getElem?_cons_zero]; rfl) (by kernel_rfl) (by kernel_rfl) (by kernel_rfl) (by intro _ _ _ h; exact h) (Or.inr ⟨by rfl, rfl⟩) (by assumption) ?_
                                  try simp only [Act.put, List.setIfInBounds_toArray, List.set_cons_zero, List.set_cons_succ]
                                  refine wpAnyH_take (i := 30) (oi := _) (v := undef) (by simp only [List.getElem?_toArray, List.getElem?_cons_succ, List.getElem?_cons_zero]; rfl) (by kernel_rfl) (by kernel_rfl) (by kernel_rfl) (by intro _ _ _ h; exact h) (Or.inr ⟨by rfl, rfl⟩) (by assumption) ?_
                                  try simp only [Act.put, List.setIfInBounds_toArray, List.set_cons_zero, List.set_cons_succ]
                                  refine wpAnyH_take (i := 31) (oi := _) (v := undef) (by simp only [List.getElem?_toArray, List.getElem?_cons_succ, List.getElem?_cons_zero]; rfl) (by kernel_rfl) (by kernel_rfl) (by kernel_rfl) (by intro _ _ _ h; exact h) (Or.inr ⟨by rfl, rfl⟩) (by assumption) ?_
                                  try simp only [Act.put, List.setIfInBounds_toArray, List.set_cons_zero, List.set_cons_succ]
                                  refine wpAnyH_take (i := 32) (oi := _) (v := undef) (by simp only [List.getElem?_toArray, List.getElem?_cons_succ, List.getElem?_cons_zero]; rfl) (by kernel_rfl) (by kernel_rfl) (by kernel_rfl) (by intro _ _ _ h; exact h) (Or.inr ⟨by rfl, rfl⟩) (by assumption) ?_
                                  try simp only [Act.put, List.setIfInBounds_toArray, List.set_cons_zero, List.set_cons_succ]
                                  refine wpAnyH_take (i := 33) (oi := _) (v := undef) (by simp only [List.getElem?_toArray, List.getElem?_cons_succ, List.getElem?_cons_zero]; rfl) (by kernel_rfl) (by kernel_rfl) (by kernel_rfl) (by intro _ _ _ h; exact h) (Or.inr ⟨by rfl, rfl⟩) (by assumption) ?_
                                  try simp only [Act.put, List.setIfInBounds_toArray, List.set_cons_zero, List.set_cons_succ]
                                  refine wpAnyH_take (i := 34) (oi := _) (v := undef) (by simp only [List.getElem?_toArray, List.getElem?_cons_succ, List.getElem?_cons_zero]; rfl) (by kernel_rfl) (by kernel_rfl) (by kernel_rfl) (by intro _ _ _ h; exact h) (Or.inr ⟨by rfl, rfl⟩) (by assumption) ?_
                                  try simp only [Act.put, List.setIfInBounds_toArray, List.set_cons_zero, List.set_cons_succ]
                                  refine wpAnyH_take (i := 35) (oi := _) (v := undef) (by simp only [List.getElem?_toArray, List.getElem?_cons_succ, List.getElem?_cons_zero]; rfl) (by kernel_rfl) (by kernel_rfl) (by kernel_rfl) (by intro _ _ _ h; exact h) (Or.inr ⟨by rfl, rfl⟩) (by assumption) ?_
                                  try simp only [Act.put, List.setIfInBounds_toArray, List.set_cons_zero, List.set_cons_succ]
                                  refine wpAnyH_take (i := 36) (oi := _) (v := undef) (by simp only [List.getElem?_toArray, List.getElem?_cons_succ, List.getElem?_cons_zero]; rfl) (by kernel_rfl) (by kernel_rfl) (by kernel_rfl) (by intro _ _ _ h; exact h) (Or.inr ⟨by rfl, rfl⟩) (by assumption) ?_
                                  try simp only [Act.put, List.setIfInBounds_toArray, List.set_cons_zero, List.set_cons_succ]
                                  refine wpAnyH_take (i := 37) (oi := _) (v := undef) (by simp only [List.getElem?_toArray, List.getElem?_cons_succ, List.getElem?_cons_zero]; rfl) (by kernel_rfl) (by kernel_rfl) (by kernel_rfl) (by intro _ _ _ h; exact h) (Or.inr ⟨by rfl, rfl⟩) (by assumption) ?_
                                  try simp only [Act.put, List.setIfInBounds_toArray, List.set_cons_zero, List.set_cons_succ]
                                  refine wpAnyH_take (i := 38) (oi := _) (v := undef) (by simp only [List.getElem?_toArray, List.getElem?_cons_succ, List.getElem?_cons_zero]; rfl) (by kernel_rfl) (by kernel_rfl) (by kernel_rfl) (by intro _ _ _ h; exact h) (Or.inr ⟨by rfl, rfl⟩) (by assumption) ?_
                                  try simp only [Act.put, List.setIfInBounds_toArray, List.set_cons_zero, List.set_cons_succ]
                                  refine wpAnyH_take (i := 39) (oi := _) (v := undef) (by simp only [List.getElem?_toArray, List.getElem?_cons_succ, List.getElem?_cons_zero]; rfl) (by kernel_rfl) (by kernel_rfl) (by kernel_rfl) (by intro _ _ _ h; exact h) (Or.inr ⟨by rfl, rfl⟩) (by assumption) ?_
                                  try simp only [Act.put, List.setIfInBounds_toArray, List.set_cons_zero, List.set_cons_succ]
                                  refine wpAnyH_take (i := 40) (oi := _) (v := ?_) (by simp only [List.getElem?_toArray, List.getElem?_cons_succ, List.getElem?_cons_zero]; rfl) (by kernel_rfl) (by kernel_rfl) (by kernel_rfl) (by intro _ _ _ h; exact h) (Or.inl ⟨by rfl, ?_⟩) (by assumption) ?_
                                  rotate_left 1
                                  · (intro w hSw; (try dsimp only at hSw); go_simp; (try simp only [D4.out, D5.out, D3.out]); try with_reducible rfl)
                                  try simp only [Act.put, List.setIfInBounds_toArray, List.set_cons_zero, List.set_cons_succ]
                                  refine wpAnyH_take (i := 41) (oi := _) (v := ?_) (by simp only [List.getElem?_toArray, List.getElem?_cons_succ, List.getElem?_cons_zero]; rfl) (by kernel_rfl) (by kernel_rfl) (by kernel_rfl) (by intro _ _ _ h; exact h) (Or.inl ⟨by rfl, ?_⟩) (by assumption) ?_
                                  rotate_left 1
                                  · (intro w hSw; (try dsimp only at hSw); go_simp; (try simp only [D4.out, D5.out, D3.out]); try with_reducible rfl)
                                  try simp only [Act.put, List.setIfInBounds_toArray, List.set_cons_zero, List.set_cons_succ]
                                  refine wpAnyH_take (i := 42) (oi := _) (v := ?_) (by simp only [List.getElem?_toArray, List.getElem?_cons_succ, List.getElem?_cons_zero]; rfl) (by kernel_rfl) (by kernel_rfl) (by kernel_rfl) (by intro _ _ _ h; exact h) (Or.inl ⟨by rfl, ?_⟩) (by assumption) ?_
                                  rotate_left 1
                                  · (intro w hSw; (try dsimp only at hSw); go_simp; (try simp only [D4.out, D5.out, D3.out]); try with_reducible rfl)
                                  try simp only [Act.put, List.setIfInBounds_toArray, List.set_cons_zero, List.set_cons_succ]
                                  refine wpAnyH_done (by kernel_rfl) ?_ _
                                  go_wp2_with fail
                                  rw [← HO.out]
                                  have HW2 := Lib.hid ((Mod.refl (fun _ => False) wr).drew.drew)
                                  have hbd2 : j + (1 + (off.length - j)) ≤ 1000 := by omega
                                  refine wp_region_held_drew (S := (fun _ => True)) (by kernel_rfl) (by trivial) (fun hHeld => ?_)
                                  refine wpAnyH_take (i := 0) (oi := _) (v := ?_) (by simp only [List.getElem?_toArray, List.getElem?_cons_succ, List.getElem?_cons_zero]; rfl) (by kernel_rfl) (by kernel_rfl) (by kernel_rfl) (by intro _ _ _ h; exact h) (Or.inl ⟨by rfl, ?_⟩) (by assumption) ?_
                                  rotate_left 1
                                  · (intro w hSw; (try dsimp only at hSw); go_simp; try with_reducible rfl)
                                  try simp only [Act.put, List.setIfInBounds_toArray, List.set_cons_zero, List.set_cons_succ]
                                  refine wpAnyH_take (i := 1) (oi := _) (v := ?_) (by simp only [List.getElem?_toArray, List.getElem?_cons_succ, List.getElem?_cons_zero]; rfl) (by kernel_rfl) (by kernel_rfl) (by kernel_rfl) (by intro _ _ _ h; exact h) (Or.inl ⟨by rfl, ?_⟩) (by assumption) ?_
                                  rotate_left 1
                                  · (intro w hSw; (try dsimp only at hSw); go_simp; try with_reducible rfl)
                                  try simp only [Act.put, List.setIfInBounds_toArray, List.set_cons_zero, List.set_cons_succ]
                                  refine wpAnyH_take (i := 2) (oi := _) (v := ?_) (by simp only [List.getElem?_toArray, List.getElem?_cons_succ, List.getElem?_cons_zero]; rfl) (by kernel_rfl) (by kernel_rfl) (by kernel_rfl) (by intro _ _ _ h; exact h) (Or.inl ⟨by rfl, ?_⟩) (by assumption) ?_
                                  rotate_left 1
                                  · (intro w hSw; (try dsimp only at hSw); go_simp; try with_reducible rfl)
                                  try simp only [Act.put, List.setIfInBounds_toArray, List.set_cons_zero, List.set_cons_succ]
                                  refine wpAnyH_take (i := 3) (oi := _) (v := ?_) (by simp only [List.getElem?_toArray, List.getElem?_cons_succ, List.getElem?_cons_zero]; rfl) (by kernel_rfl) (by kernel_rfl) (by kernel_rfl) (by intro _ _ _ h; exact h) (Or.inl ⟨by rfl, ?_⟩) (by assumption) ?_
                                  rotate_left 1
                                  · (intro w hSw; (try dsimp only at hSw); go_simp; try with_reducible rfl)
                                  try simp only [Act.put, List.setIfInBounds_toArray, List.set_cons_zero, List.set_cons_succ]
                                  refine wpAnyH_take (i := 4) (oi := _) (v := ?_) (by simp only [List.getElem?_toArray, List.getElem?_cons_succ, List.getElem?_cons_zero]; rfl) (by kernel_rfl) (by kernel_rfl) (by kernel_rfl) (by intro _ _ _ h; exact h) (Or.inl ⟨by rfl, ?_⟩) (by assumption) ?_
                                  rotate_left 1
                                  · (intro w hSw; (try dsimp only at hSw); go_simp; try with_reducible rfl)
                                  try simp only [Act.put, List.setIfInBounds_toArray, List.set_cons_zero, List.set_cons_succ]
                                  refine wpAnyH_take (i := 5) (oi := _) (v := ?_) (by simp only [List.getElem?_toArray, List.getElem?_cons_succ, List.getElem?_cons_zero]; rfl) (by kernel_rfl) (by kernel_rfl) (by kernel_rfl) (by intro _ _ _ h; exact h) (Or.inl ⟨by rfl, ?_⟩) (by assumption) ?_
                                  rotate_left 1
                                  · (intro w hSw; (try dsimp only at hSw); go_simp; try with_reducible rfl)
                                  try simp only [Act.put, List.setIfInBounds_toArray, List.set_cons_zero, List.set_cons_succ]
                                  refine wpAnyH_take (i := 6) (oi := _) (v := ?_) (by simp only [List.getElem?_toArray, List.getElem?_cons_succ, List.getElem?_cons_zero]; rfl) (by kernel_rfl) (by kernel_rfl) (by kernel_rfl) (by intro _ _ _ h; exact h) (Or.inl ⟨by rfl, ?_⟩) (by assumption) ?_
                                  rotate_left 1
                                  · (intro w hSw; (try dsimp only at hSw); go_simp; try with_reducible rfl)
                                  try simp only [Act.put, List.setIfInBounds_toArray, List.set_cons_zero, List.set_cons_succ]
                                  refine wpAnyH_take (i := 9) (oi := _) (v := ?_) (by simp only [List.getElem?_toArray, List.getElem?_cons_succ, List.getElem?_cons_zero]; rfl) (by kernel_rfl) (by kernel_rfl) (by kernel_rfl) (by intro _ _ _ h; exact h) (Or.inl ⟨by rfl, ?_⟩) (by assumption) ?_
                                  rotate_left 1
                                  · (intro w hSw; (try dsimp only at hSw); go_simp; try with_reducible rfl)
                                  try simp only [Act.put, List.setIfInBounds_toArray, List.set_cons_zero, List.set_cons_succ]
                                  refine wpAnyH_take (i := 10) (oi := _) (v := ?_) (by simp only [List.getElem?_toArray, List.getElem?_cons_succ, List.getElem?_cons_zero]; rfl) (by kernel_rfl) (by kernel_rfl) (by kernel_rfl) (by intro _ _ _ h; exact h) (Or.inl ⟨by rfl, ?_⟩) (by assumption) ?_
                                  rotate_left 1
                                  · (intro w hSw; (try dsimp only at hSw); go_simp; try with_reducible rfl)
                                  try simp only [Act.put, List.setIfInBounds_toArray, List.set_cons_zero, List.set_cons_succ]
                                  refine wpAnyH_take (i := 11) (oi := _) (v := ?_) (by simp only [List.getElem?_toArray, List.getElem?_cons_succ, List.getElem?_cons_zero]; rfl) (by kernel_rfl) (by kernel_rfl) (by kernel_rfl) (by intro _ _ _ h; exact h) (Or.inl ⟨by rfl, ?_⟩) (by assumption) ?_
                                  rotate_left 1
                                  · (intro w hSw; (try dsimp only at hSw); go_simp; try with_reducible rfl)
                                  try simp only [Act.put, List.setIfInBounds_toArray, List.set_cons_zero, List.set_cons_succ]
                                  refine wpAnyH_ready (rs := [7]) (by kernel_rfl) (by simp) ?_
                                  refine AllReadyH.cons (by simp only [List.getElem?_toArray, List.getElem?_cons_succ, List.getElem?_cons_zero]; rfl) (fun K hK => ?_) AllReadyH.nil
                                  go_simp
                                  refine hK.out _ _ (by trivial) (fun hHeld => ?_)
                                  clear hK K
                                  try simp only [Act.put, List.setIfInBounds_toArray, List.set_cons_zero, List.set_cons_succ]
                                  refine wpAnyH_ready (rs := [8]) (by kernel_rfl) (by simp) ?_
                                  refine AllReadyH.cons (by simp only [List.getElem?_toArray, List.getElem?_cons_succ, List.getElem?_cons_zero]; rfl) (fun K hK => ?_) AllReadyH.nil
                                  go_simp
                                  refine hK.out _ _ (by trivial) (fun hHeld => ?_)
                                  clear hK K
                                  try simp only [Act.put, List.setIfInBounds_toArray, List.set_cons_zero, List.set_cons_succ]
                                  refine wpAnyH_ready (rs := [12]) (by kernel_rfl) (by simp) ?_
                                  refine AllReadyH.cons (by simp only [List.getElem?_toArray, List.getElem?_cons_succ, List.getElem?_cons_zero]; rfl) (fun K hK => ?_) AllReadyH.nil
                                  (refine step_app _ (by rfl) (.tmp 146) (.tmp 149) (by rfl) (by rfl) (by exact own_tm _ yi yt _) (by rfl) (l2 := off.drop j) (by exact Sl.of_own (OD.out.alloc _)) hbd1 ?_; intro A5 c5 w5 ho5 hg5 hb5)
                                  refine hK.out _ _ (by trivial) (fun hHeld => ?_)
                                  clear hK K
                                  try simp only [Act.put, List.setIfInBounds_toArray, List.set_cons_zero, List.set_cons_succ]
                                  refine wpAnyH_ready (rs := [13]) (by kernel_rfl) (by simp) ?_
                                  refine AllReadyH.cons (by simp only [List.getElem?_toArray, List.getElem?_cons_succ, List.getElem?_cons_zero]; rfl) (fun K hK => ?_) AllReadyH.nil
                                  (refine step_app w5 (by rfl) (.tmp 141) (.tmp 150) (by rfl) (by rfl) (ot5 OT.out HW2.out hg5) (by rfl) (Sl.of_own (own_app ho5)) hbd2 ?_; intro A6 c6 w6 ho6 hg6 hb6)
                                  refine hK.out _ _ (by trivial) (fun hHeld => ?_)
                                  clear hK K
                                  try simp only [Act.put, List.setIfInBounds_toArray, List.set_cons_zero, List.set_cons_succ]
                                  refine wpAnyH_take (i := 14) (oi := _) (v := ?_) (by simp only [List.getElem?_toArray, List.getElem?_cons_succ, List.getElem?_cons_zero]; rfl) (by kernel_rfl) (by kernel_rfl) (by kernel_rfl) (by intro _ _ _ h; exact h) (Or.inl ⟨by rfl, ?_⟩) (by assumption) ?_
                                  rotate_left 1
                                  · (intro w hSw; (try dsimp only at hSw); go_simp; try with_reducible rfl)
                                  try simp only [Act.put, List.setIfInBounds_toArray, List.set_cons_zero, List.set_cons_succ]
                                  refine wpAnyH_done (by kernel_rfl) ?_ _
                                  obtain ⟨hG6, hl6, hs6⟩ := HG2.out.gone2 hkl HY.out (Int.not_lt.2 (show yt ≤ tm by have h := HLT.out; omega)) hj HJ.out HJ2.out HW2.out (by rfl) hg5 hg6 ho6 hb6
                                  have HG6 := Lib.hid hG6
                                  have HL6 := Lib.hid hl6
                                  have HS6 := Lib.hid hs6
                                  clear hG6 hl6 hs6 ho5 hg5 hb5 ho6 hg6 hb6
                                  go_wp2_with fail
                                  all_goals
                                    rw [← HL.out]
                                    go_roundg (l.length - (k + 1))
                                    case measure => omega
                                    case rel => exact ⟨k + 1, off.take j ++ ([⟨yi, yt⟩] ++ off.drop j), A1, A6, c1, c6, n1, by omega, Lib.hid (by rw [HS6.out, hn1.out]), rfl, by rw [HL6.out], by go_num, HG6, by omega⟩
                              · as_aux_lemma =>
                                  have HE4 := Lib.hid (show ltOf cf off[j] ⟨yi, yt⟩ = false by rw [HU.out]; exact lt_of4 e1.symm e2)
                                  have d1 : ¬ ui < yi := by omega
                                  subst e1
                                  have HJ2 := Lib.hid (show ∀ h : j < off.length, ltOf cf off[j] ⟨yi, yt⟩ = false from fun _ => HE4.out)
                                  have OT := Lib.hid (HG2.out.o2.cut1 hj)
                                  have OD := Lib.hid (HG2.out.o2.cut3 hj)
                                  have hcc := HG2.out.o2.2.1
                                  have v1 : (j : Int) ≤ (off.length : Int) := by omega
                                  have v2 : (j : Int) ≤ (c2 : Int) := by omega
                                  have v3 : (off.length : Int) ≤ (c2 : Int) := by omega
                                  have v4 : (0 : Int) ≤ (j : Int) := by omega
                                  have hbd1 : 1 + (off.length - j) ≤ 1000 := by omega
                                  go_wp2_with fail
                                  refine wp_region_held_drew (S := (fun w' => w'.cell? ⟨gO, oO + j * 2, none⟩ = some (.int .i64 ui) ∧ w'.cell? ⟨gO, oO + j * 2 + 1, none⟩ = some (.int .i64 yt) ∧ w'.cell? ⟨gL, oL + k * 2, none⟩ = some (.int .i64 yi) ∧ w'.cell? ⟨gL, oL + k * 2 + 1, none⟩ = some (.int .i64 yt))) (by kernel_rfl) (by go_keep) (fun hHeld => ?_)
                                  refine wpAnyH_take (i := 0) (oi := _) (v := ?_) (by simp only [List.getElem?_toArray, List.getElem?_cons_succ, List.getElem?_cons_zero]; rfl) (by kernel_rfl) (by kernel_rfl) (by kernel_rfl) (by intro _ _ _ h; exact h) (Or.inl ⟨by rfl, ?_⟩) (by assumption) ?_
                                  rotate_left 1
                                  · (intro w hSw; (try dsimp only at hSw); go_simp; try with_reducible rfl)
                                  try simp only [Act.put, List.setIfInBounds_toArray, List.set_cons_zero, List.set_cons_succ]
                                  refine wpAnyH_take (i := 1) (oi := _) (v := ?_) (by simp only [List.getElem?_toArray, List.getElem?_cons_succ, List.getElem?_cons_zero]; rfl) (by kernel_rfl) (by kernel_rfl) (by kernel_rfl) (by intro _ _ _ h; exact h) (Or.inl ⟨by rfl, ?_⟩) (by assumption) ?_
                                  rotate_left 1
                                  · (intro w hSw; (try dsimp only at hSw); go_simp; try with_reducible rfl)
                                  try simp only [Act.put, List.setIfInBounds_toArray, List.set_cons_zero, List.set_cons_succ]
                                  refine wpAnyH_take (i := 2) (oi := _) (v := ?_) (by simp only [List.getElem?_toArray, List.getElem?_cons_succ, List.getElem?_cons_zero]; rfl) (by kernel_rfl) (by kernel_rfl) (by kernel_rfl) (by intro _ _ _ h; exact h) (Or.inl ⟨by rfl, ?_⟩) (by assumption) ?_
                                  rotate_left 1
                                  · (intro w hSw; (try dsimp only at hSw); go_simp; try with_reducible rfl)
                                  try simp only [Act.put, List.setIfInBounds_toArray, List.set_cons_zero, List.set_cons_succ]
                                  refine wpAnyH_take (i := 3) (oi := _) (v := ?_) (by simp only [List.getElem?_toArray, List.getElem?_cons_succ, List.getElem?_cons_zero]; rfl) (by kernel_rfl) (by kernel_rfl) (by kernel_rfl) (by intro _ _ _ h; exact h) (Or.inl ⟨by rfl, ?_⟩) (by assumption) ?_
                                  rotate_left 1
                                  · (intro w hSw; (try dsimp only at hSw); go_simp; try with_reducible rfl)
                                  try simp only [Act.put, List.setIfInBounds_toArray, List.set_cons_zero, List.set_cons_succ]
                                  refine wpAnyH_take (i := 4) (oi := _) (v := ?_) (by simp only [List.getElem?_toArray, List.getElem?_cons_succ, List.getElem?_cons_zero]; rfl) (by kernel_rfl) (by kernel_rfl) (by kernel_rfl) (by intro _ _ _ h; exact h) (Or.inl ⟨by rfl, ?_⟩) (by assumption) ?_
                                  rotate_left 1
                                  · (intro w hSw; (try dsimp only at hSw); go_simp; try with_reducible rfl)
                                  try simp only [Act.put, List.setIfInBounds_toArray, List.set_cons_zero, List.set_cons_succ]
                                  refine wpAnyH_take (i := 5) (oi := _) (v := ?_) (by simp only [List.getElem?_toArray, List.getElem?_cons_succ, List.getElem?_cons_zero]; rfl) (by kernel_rfl) (by kernel_rfl) (by kernel_rfl) (by intro _ _ _ h; exact h) (Or.inl ⟨by rfl, ?_⟩) (by assumption) ?_
                                  rotate_left 1
                                  · (intro w hSw; (try dsimp only at hSw); go_simp; try with_reducible rfl)
                                  try simp only [Act.put, List.setIfInBounds_toArray, List.set_cons_zero, List.set_cons_succ]
                                  refine wpAnyH_take (i := 6) (oi := _) (v := ?_) (by simp only [List.getElem?_toArray, List.getElem?_cons_succ, List.getElem?_cons_zero]; rfl) (by kernel_rfl) (by kernel_rfl) (by kernel_rfl) (by intro _ _ _ h; exact h) (Or.inl ⟨by rfl, ?_⟩) (by assumption) ?_
                                  rotate_left 1
                                  · (intro w hSw; (try dsimp only at hSw); go_simp; try with_reducible rfl)
                                  try simp only [Act.put, List.setIfInBounds_toArray, List.set_cons_zero, List.set_cons_succ]
                                  refine wpAnyH_take (i := 7) (oi := _) (v := ?_) (by simp only [List.getElem?_toArray, List.getElem?_cons_succ, List.getElem?_cons_zero]; rfl) (by kernel_rfl) (by kernel_rfl) (by kernel_rfl) (by intro _ _ _ h; exact h) (Or.inl ⟨by rfl, ?_⟩) (by assumption) ?_
                                  rotate_left 1
                                  · (intro w hSw; (try dsimp only at hSw); go_simp; try with_reducible rfl)
                                  try simp only [Act.put, List.setIfInBounds_toArray, List.set_cons_zero, List.set_cons_succ]
                                  refine wpAnyH_take (i := 8) (oi := _) (v := ?_) (by simp only [List.getElem?_toArray, List.getElem?_cons_succ, List.getElem?_cons_zero]; rfl) (by kernel_rfl) (by kernel_rfl) (by kernel_rfl) (by intro _ _ _ h; exact h) (Or.inl ⟨by rfl, ?_⟩) (by assumption) ?_
                                  rotate_left 1
                                  · (intro w hSw; (try dsimp only at hSw); go_simp; try with_reducible rfl)
                                  try simp only [Act.put, List.setIfInBounds_toArray, List.set_cons_zero, List.set_cons_succ]
                                  refine wpAnyH_take (i := 9) (oi := _) (v := ?_) (by simp only [List.getElem?_toArray, List.getElem?_cons_succ, List.getElem?_cons_zero]; rfl) (by kernel_rfl) (by kernel_rfl) (by kernel_rfl) (by intro _ _ _ h; exact h) (Or.inl ⟨by rfl, ?_⟩) (by assumption) ?_
                                  rotate_left 1
                                  · (intro w hSw; (try dsimp only at hSw); go_simp; try with_reducible rfl)
                                  try simp only [Act.put, List.setIfInBounds_toArray, List.set_cons_zero, List.set_cons_succ]
                                  refine wpAnyH_take (i := 10) (oi := _) (v := ?_) (by simp only [List.getElem?_toArray, List.getElem?_cons_succ, List.getElem?_cons_zero]; rfl) (by kernel_rfl) (by kernel_rfl) (by kernel_rfl) (by intro _ _ _ h; exact h) (Or.inl ⟨by rfl, ?_⟩) (by assumption) ?_
                                  rotate_left 1
                                  · (intro w hSw; (try dsimp only at hSw); go_simp; try with_reducible rfl)
                                  try simp only [Act.put, List.setIfInBounds_toArray, List.set_cons_zero, List.set_cons_succ]
                                  refine wpAnyH_take (i := 11) (oi := _) (v := ?_) (by simp only [List.getElem?_toArray, List.getElem?_cons_succ, List.getElem?_cons_zero]; rfl) (by kernel_rfl) (by kernel_rfl) (by kernel_rfl) (by intro _ _ _ h; exact h) (Or.inl ⟨by rfl, ?_⟩) (by assumption) ?_
                                  rotate_left 1
                                  · (intro w hSw; (try dsimp only at hSw); go_simp; try with_reducible rfl)
                                  try simp only [Act.put, List.setIfInBounds_toArray, List.set_cons_zero, List.set_cons_succ]
                                  refine wpAnyH_take (i := 12) (oi := _) (v := ?_) (by simp only [List.getElem?_toArray, List.getElem?_cons_succ, List.getElem?_cons_zero]; rfl) (by kernel_rfl) (by kernel_rfl) (by kernel_rfl) (by intro _ _ _ h; exact h) (Or.inl ⟨by rfl, ?_⟩) (by assumption) ?_
                                  rotate_left 1
                                  · (intro w hSw; (try dsimp only at hSw); go_simp; try with_reducible rfl)
                                  try simp only [Act.put, List.setIfInBounds_toArray, List.set_cons_zero, List.set_cons_succ]
                                  refine wpAnyH_take (i := 13) (oi := _) (v := ?_) (by simp only [List.getElem?_toArray, List.getElem?_cons_succ, List.getElem?_cons_zero]; rfl) (by kernel_rfl) (by kernel_rfl) (by kernel_rfl) (by intro _ _ _ h; exact h) (Or.inl ⟨by rfl, ?_⟩) (by assumption) ?_
                                  rotate_left 1
                                  · (intro w hSw; (try dsimp only at hSw); go_simp; try with_reducible rfl)
                                  try simp only [Act.put, List.setIfInBounds_toArray, List.set_cons_zero, List.set_cons_succ]
                                  refine wpAnyH_take (i := 14) (oi := _) (v := ?_) (by simp only [List.getElem?_toArray, List.getElem?_cons_succ, List.getElem?_cons_zero]; rfl) (by kernel_rfl) (by kernel_rfl) (by kernel_rfl) (by intro _ _ _ h; exact h) (Or.inl ⟨by rfl, ?_⟩) (by assumption) ?_
                                  rotate_left 1
                                  · (intro w hSw; (try dsimp only at hSw); go_simp; try with_reducible rfl)
                                  try simp only [Act.put, List.setIfInBounds_toArray, List.set_cons_zero, List.set_cons_succ]
                                  refine wpAnyH_take (i := 15) (oi := _) (v := ?_) (by simp only [List.getElem?_toArray, List.getElem?_cons_succ, List.getElem?_cons_zero]; rfl) (by kernel_rfl) (by kernel_rfl) (by kernel_rfl) (by intro _ _ _ h; exact h) (Or.inl ⟨by rfl, ?_⟩) (by assumption) ?_
                                  rotate_left 1
                                  · (intro w hSw; (try dsimp only at hSw); go_simp; try with_reducible rfl)
                                  try simp only [Act.put, List.setIfInBounds_toArray, List.set_cons_zero, List.set_cons_succ]
                                  refine wpAnyH_take (i := 16) (oi := _) (v := ?_) (by simp only [List.getElem?_toArray, List.getElem?_cons_succ, List.getElem?_cons_zero]; rfl) (by kernel_rfl) (by kernel_rfl) (by kernel_rfl) (by intro _ _ _ h; exact h) (Or.inl ⟨by rfl, ?_⟩) (by assumption) ?_
                                  rotate_left 1
                                  · (intro w hSw; (try dsimp only at hSw); go_simp; try with_reducible rfl)
                                  try simp only [Act.put, List.setIfInBounds_toArray, List.set_cons_zero, List.set_cons_succ]
                                  refine wpAnyH_take (i := 17) (oi := _) (v := ?_) (by simp only [List.getElem?_toArray, List.getElem?_cons_succ, List.getElem?_cons_zero]; rfl) (by kernel_rfl) (by kernel_rfl) (by kernel_rfl) (by intro _ _ _ h; exact h) (Or.inl ⟨by rfl, ?_⟩) (by assumption) ?_
                                  rotate_left 1
                                  · (intro w hSw; (try dsimp only at hSw); go_simp; try with_reducible rfl)
                                  try simp only [Act.put, List.setIfInBounds_toArray, List.set_cons_zero, List.set_cons_succ]
                                  refine wpAnyH_take (i := 18) (oi := _) (v := ?_) (by simp only [List.getElem?_toArray, List.getElem?_cons_succ, List.getElem?_cons_zero]; rfl) (by kernel_rfl) (by kernel_rfl) (by kernel_rfl) (by intro _ _ _ h; exact h) (Or.inl ⟨by rfl, ?_⟩) (by assumption) ?_
                                  rotate_left 1
                                  · (intro w hSw; (try dsimp only at hSw); go_simp; try with_reducible rfl)
                                  try simp only [Act.put, List.setIfInBounds_toArray, List.set_cons_zero, List.set_cons_succ]
                                  refine wpAnyH_take (i := 19) (oi := _) (v := ?_) (by simp only [List.getElem?_toArray, List.getElem?_cons_succ, List.getElem?_cons_zero]; rfl) (by kernel_rfl) (by kernel_rfl) (by kernel_rfl) (by intro _ _ _ h; exact h) (Or.inl ⟨by rfl, ?_⟩) (by assumption) ?_
                                  rotate_left 1
                                  · (intro w hSw; (try dsimp only at hSw); go_simp; try with_reducible rfl)
                                  try simp only [Act.put, List.setIfInBounds_toArray, List.set_cons_zero, List.set_cons_succ]
                                  refine wpAnyH_take (i := 20) (oi := _) (v := ?_) (by simp only [List.getElem?_toArray, List.getElem?_cons_succ, List.getElem?_cons_zero]; rfl) (by kernel_rfl) (by kernel_rfl) (by kernel_rfl) (by intro _ _ _ h; exact h) (Or.inl ⟨by rfl, ?_⟩) (by assumption) ?_
                                  rotate_left 1
                                  · (intro w hSw; (try dsimp only at hSw); go_simp; try with_reducible rfl)
                                  try simp only [Act.put, List.setIfInBounds_toArray, List.set_cons_zero, List.set_cons_succ]
                                  refine wpAnyH_take (i := 21) (oi := _) (v := ?_) (by simp only [List.getElem?_toArray, List.getElem?_cons_succ, List.getElem?_cons_zero]; rfl) (by kernel_rfl) (by kernel_rfl) (by kernel_rfl) (by intro _ _ _ h; exact h) (Or.inl ⟨by rfl, ?_⟩) (by assumption) ?_
                                  rotate_left 1
                                  · (intro w hSw; (try dsimp only at hSw); go_simp; try with_reducible rfl)
                                  try simp only [Act.put, List.setIfInBounds_toArray, List.set_cons_zero, List.set_cons_succ]
                                  refine wpAnyH_take (i := 22) (oi := _) (v := ?_) (by simp only [List.getElem?_toArray, List.getElem?_cons_succ, List.getElem?_cons_zero]; rfl) (by kernel_rfl) (by kernel_rfl) (by kernel_rfl) (by intro _ _ _ h; exact h) (Or.inl ⟨by rfl, ?_⟩) (by assumption) ?_
                                  rotate_left 1
                                  · (intro w hSw; (try dsimp only at hSw); go_simp; try with_reducible rfl)
                                  try simp only [Act.put, List.setIfInBounds_toArray, List.set_cons_zero, List.set_cons_succ]
                                  refine wpAnyH_take (i := 23) (oi := _) (v := ?_) (by simp only [List.getElem?_toArray, List.getElem?_cons_succ, List.getElem?_cons_zero]; rfl) (by kernel_rfl) (by kernel_rfl) (by kernel_rfl) (by intro _ _ _ h; exact h) (Or.inl ⟨by rfl, ?_⟩) (by assumption) ?_
                                  rotate_left 1
                                  · (intro w hSw; (try dsimp only at hSw); go_simp; try with_reducible rfl)
                                  try simp only [Act.put, List.setIfInBounds_toArray, List.set_cons_zero, List.set_cons_succ]
                                  refine wpAnyH_take (i := 24) (oi := _) (v := ?_) (by simp only [List.getElem?_toArray, List.getElem?_cons_succ, List.getElem?_cons_zero]; rfl) (by kernel_rfl) (by kernel_rfl) (by kernel_rfl) (by intro _ _ _ h; exact h) (Or.inl ⟨by rfl, ?_⟩) (by assumption) ?_
                                  rotate_left 1
                                  · (intro w hSw; (try dsimp only at hSw); go_simp; try with_reducible rfl)
                                  try simp only [Act.put, List.setIfInBounds_toArray, List.set_cons_zero, List.set_cons_succ]
                                  refine wpAnyH_take (i := 25) (oi := _) (v := ?_) (by simp only [List.getElem?_toArray, List.getElem?_cons_succ, List.getElem?_cons_zero]; rfl) (by kernel_rfl) (by kernel_rfl) (by kernel_rfl) (by intro _ _ _ h; exact h) (Or.inl ⟨by rfl, ?_⟩) (by assumption) ?_
                                  rotate_left 1
                                  · (intro w hSw; (try dsimp only at hSw); go_simp; try with_reducible rfl)
                                  try simp only [Act.put, List.setIfInBounds_toArray, List.set_cons_zero, List.set_cons_succ]
                                  refine wpAnyH_take (i := 26) (oi := _) (v := ?_) (by simp only [List.getElem?_toArray, List.getElem?_cons_succ, List.getElem?_cons_zero]; rfl) (by kernel_rfl) (by kernel_rfl) (by kernel_rfl) (by intro _ _ _ h; exact h) (Or.inl ⟨by rfl, ?_⟩) (by assumption) ?_
                                  rotate_left 1
                                  · (intro w hSw; (try dsimp only at hSw); go_simp; try with_reducible rfl)
                                  try simp only [Act.put, List.setIfInBounds_toArray, List.set_cons_zero, List.set_cons_succ]
                                  refine wpAnyH_take (i := 27) (oi := _) (v := ?_) (by simp only [List.getElem?_toArray, List.getElem?_cons_succ, List.getElem?_cons_zero]; rfl) (by kernel_rfl) (by kernel_rfl) (by kernel_rfl) (by intro _ _ _ h; exact h) (Or.inl ⟨by rfl, ?_⟩) (by assumption) ?_
                                  rotate_left 1
                                  · (intro w hSw; (try dsimp only at hSw); go_simp; try with_reducible rfl)
                                  try simp only [Act.put, List.setIfInBounds_toArray, List.set_cons_zero, List.set_cons_succ]
                                  refine wpAnyH_take (i := 28) (oi := _) (v := ?_) (by simp only [List.getElem?_toArray, List.getElem?_cons_succ, List.getElem?_cons_zero]; rfl) (by kernel_rfl) (by kernel_rfl) (by kernel_rfl) (by intro _ _ _ h; exact h) (Or.inl ⟨by rfl, ?_⟩) (by assumption) ?_
                                  rotate_left 1
                                  · (intro w hSw; (try dsimp only at hSw); go_simp; try with_reducible rfl)
                                  try simp only [Act.put, List.setIfInBounds_toArray, List.set_cons_zero, List.set_cons_succ]
                                  refine wpAnyH_take (i := 29) (oi := _) (v := ?_) (by simp only [List.getElem?_toArray, List.getElem?_cons_succ, List.getElem?_cons_zero]; rfl) (by kernel_rfl) (by kernel_rfl) (by kernel_rfl) (by intro _ _ _ h; exact h) (Or.inl ⟨by rfl, ?_⟩) (by assumption) ?_
                                  rotate_left 1
                                  · (intro w hSw; (try dsimp only at hSw); go_simp; try with_reducible rfl)
                                  try simp only [Act.put, List.setIfInBounds_toArray, List.set_cons_zero, List.set_cons_succ]
                                  refine wpAnyH_take (i := 30) (oi := _) (v := ?_) (by simp only [List.getElem?_toArray, List.getElem?_cons_succ, List.getElem?_cons_zero]; rfl) (by kernel_rfl) (by kernel_rfl) (by kernel_rfl) (by intro _ _ _ h; exact h) (Or.inl ⟨by rfl, ?_⟩) (by assumption) ?_
                                  rotate_left 1
                                  · (intro w hSw; (try dsimp only at hSw); go_simp; try with_reducible rfl)
                                  try simp only [Act.put, List.setIfInBounds_toArray, List.set_cons_zero, List.set_cons_succ]
                                  refine wpAnyH_take (i := 31) (oi := _) (v := ?_) (by simp only [List.getElem?_toArray, List.getElem?_cons_succ, List.getElem?_cons_zero]; rfl) (by kernel_rfl) (by kernel_rfl) (by kernel_rfl) (by intro _ _ _ h; exact h) (Or.inl ⟨by rfl, ?_⟩) (by assumption) ?_
                                  rotate_left 1
                                  · (intro w hSw; (try dsimp only at hSw); go_simp; try with_reducible rfl)
                                  try simp only [Act.put, List.setIfInBounds_toArray, List.set_cons_zero, List.set_cons_succ]
                                  refine wpAnyH_take (i := 32) (oi := _) (v := ?_) (by simp only [List.getElem?_toArray, List.getElem?_cons_succ, List.getElem?_cons_zero]; rfl) (by kernel_rfl) (by kernel_rfl) (by kernel_rfl) (by intro _ _ _ h; exact h) (Or.inl ⟨by rfl, ?_⟩) (by assumption) ?_
                                  rotate_left 1
                                  · (intro w hSw; (try dsimp only at hSw); go_simp; try with_reducible rfl)
                                  try simp only [Act.put, List.setIfInBounds_toArray, List.set_cons_zero, List.set_cons_succ]
                                  refine wpAnyH_take (i := 33) (oi := _) (v := ?_) (by simp only [List.getElem?_toArray, List.getElem?_cons_succ, List.getElem?_cons_zero]; rfl) (by kernel_rfl) (by kernel_rfl) (by kernel_rfl) (by intro _ _ _ h; exact h) (Or.inl ⟨by rfl, ?_⟩) (by assumption) ?_
                                  rotate_left 1
                                  · (intro w hSw; (try dsimp only at hSw); go_simp; try with_reducible rfl)
                                  try simp only [Act.put, List.setIfInBounds_toArray, List.set_cons_zero, List.set_cons_succ]
                                  refine wpAnyH_take (i := 34) (oi := _) (v := ?_) (by simp only [List.getElem?_toArray, List.getElem?_cons_succ, List.getElem?_cons_zero]; rfl) (by kernel_rfl) (by kernel_rfl) (by kernel_rfl) (by intro _ _ _ h; exact h) (Or.inl ⟨by rfl, ?_⟩) (by assumption) ?_
                                  rotate_left 1
                                  · (intro w hSw; (try dsimp only at hSw); go_simp; try with_reducible rfl)
                                  try simp only [Act.put, List.setIfInBounds_toArray, List.set_cons_zero, List.set_cons_succ]
                                  refine wpAnyH_take (i := 35) (oi := _) (v := ?_) (by simp only [List.getElem?_toArray, List.getElem?_cons_succ, List.getElem?_cons_zero]; rfl) (by kernel_rfl) (by kernel_rfl) (by kernel_rfl) (by intro _ _ _ h; exact h) (Or.inl ⟨by rfl, ?_⟩) (by assumption) ?_
                                  rotate_left 1
                                  · (intro w hSw; (try dsimp only at hSw); go_simp; try with_reducible rfl)
                                  try simp only [Act.put, List.setIfInBounds_toArray, List.set_cons_zero, List.set_cons_succ]
                                  refine wpAnyH_take (i := 36) (oi := _) (v := ?_) (by simp only [List.getElem?_toArray, List.getElem?_cons_succ, List.getElem?_cons_zero]; rfl) (by kernel_rfl) (by kernel_rfl) (by kernel_rfl) (by intro _ _ _ h; exact h) (Or.inl ⟨by rfl, ?_⟩) (by assumption) ?_
                                  rotate_left 1
                                  · (intro w hSw; (try dsimp only at hSw); go_simp; try with_reducible rfl)
                                  try simp only [Act.put, List.setIfInBounds_toArray, List.set_cons_zero, List.set_cons_succ]
                                  refine wpAnyH_take (i := 37) (oi := _) (v := ?_) (by simp only [List.getElem?_toArray, List.getElem?_cons_succ, List.getElem?_cons_zero]; rfl) (by kernel_rfl) (by kernel_rfl) (by kernel_rfl) (by intro _ _ _ h; exact h) (Or.inl ⟨by rfl, ?_⟩) (by assumption) ?_
                                  rotate_left 1
                                  · (intro w hSw; (try dsimp only at hSw); go_simp; try with_reducible rfl)
                                  try simp only [Act.put, List.setIfInBounds_toArray, List.set_cons_zero, List.set_cons_succ]
                                  refine wpAnyH_take (i := 38) (oi := _) (v := ?_) (by simp only [List.getElem?_toArray, List.getElem?_cons_succ, List.getElem?_cons_zero]; rfl) (by kernel_rfl) (by kernel_rfl) (by kernel_rfl) (by intro _ _ _ h; exact h) (Or.inl ⟨by rfl, ?_⟩) (by assumption) ?_
                                  rotate_left 1
                                  · (intro w hSw; (try dsimp only at hSw); go_simp; try with_reducible rfl)
                                  try simp only [Act.put, List.setIfInBounds_toArray, List.set_cons_zero, List.set_cons_succ]
                                  refine wpAnyH_take (i := 39) (oi := _) (v := ?_) (by simp only [List.getElem?_toArray, List.getElem?_cons_succ, List.getElem?_cons_zero]; rfl) (by kernel_rfl) (by kernel_rfl) (by kernel_rfl) (by intro _ _ _ h; exact h) (Or.inl ⟨by rfl, ?_⟩) (by assumption) ?_
                                  rotate_left 1
                                  · (intro w hSw; (try dsimp only at hSw); go_simp; try with_reducible rfl)
                                  try simp only [Act.put, List.setIfInBounds_toArray, List.set_cons_zero, List.set_cons_succ]
                                  refine wpAnyH_take (i := 40) (oi := _) (v := ?_) (by simp only [List.getElem?_toArray, List.getElem?_cons_succ, List.getElem?_cons_zero]; rfl) (by kernel_rfl) (by kernel_rfl) (by kernel_rfl) (by intro _ _ _ h; exact h) (Or.inl ⟨by rfl, ?_⟩) (by assumption) ?_
                                  rotate_left 1
                                  · (intro w hSw; (try dsimp only at hSw); go_simp; try with_reducible rfl)
                                  try simp only [Act.put, List.setIfInBounds_toArray, List.set_cons_zero, List.set_cons_succ]
                                  refine wpAnyH_take (i := 41) (oi := _) (v := ?_) (by simp only [List.getElem?_toArray, List.getElem?_cons_succ, List.getElem?_cons_zero]; rfl) (by kernel_rfl) (by kernel_rfl) (by kernel_rfl) (by intro _ _ _ h; exact h) (Or.inl ⟨by rfl, ?_⟩) (by assumption) ?_
                                  rotate_left 1
                                  · (intro w hSw; (try dsimp only at hSw); go_simp; try with_reducible rfl)
                                  try simp only [Act.put, List.setIfInBounds_toArray, List.set_cons_zero, List.set_cons_succ]
                                  refine wpAnyH_take (i := 42) (oi := _) (v := ?_) (by simp only [List.getElem?_toArray, List.getElem?_cons_succ, List.getElem?_cons_zero]; rfl) (by kernel_rfl) (by kernel_rfl) (by kernel_rfl) (by intro _ _ _ h; exact h) (Or.inl ⟨by rfl, ?_⟩) (by assumption) ?_
                                  rotate_left 1
                                  · (intro w hSw; (try dsimp only at hSw); go_simp; try with_reducible rfl)
                                  try simp only [Act.put, List.setIfInBounds_toArray, List.set_cons_zero, List.set_cons_succ]
                                  refine wpAnyH_done (by kernel_rfl) ?_ _
                                  go_wp2_with fail
                                  rw [← HO.out]
                                  have HW2 := Lib.hid ((Mod.refl (fun _ => False) wr).drew.drew)
                                  have hbd2 : j + (1 + (off.length - j)) ≤ 1000 := by omega
                                  refine wp_region_held_drew (S := (fun _ => True)) (by kernel_rfl) (by trivial) (fun hHeld => ?_)
                                  refine wpAnyH_take (i := 0) (oi := _) (v := ?_) (by simp only [List.getElem?_toArray, List.getElem?_cons_succ, List.getElem?_cons_zero]; rfl) (by kernel_rfl) (by kernel_rfl) (by kernel_rfl) (by intro _ _ _ h; exact h) (Or.inl ⟨by rfl, ?_⟩) (by assumption) ?_
                                  rotate_left 1
                                  · (intro w hSw; (try dsimp only at hSw); go_simp; try with_reducible rfl)
                                  try simp only [Act.put, List.setIfInBounds_toArray, List.set_cons_zero, List.set_cons_succ]
                                  refine wpAnyH_take (i := 1) (oi := _) (v := ?_) (by simp only [List.getElem?_toArray, List.getElem?_cons_succ, List.getElem?_cons_zero]; rfl) (by kernel_rfl) (by kernel_rfl) (by kernel_rfl) (by intro _ _ _ h; exact h) (Or.inl ⟨by rfl, ?_⟩) (by assumption) ?_
                                  rotate_left 1
                                  · (intro w hSw; (try dsimp only at hSw); go_simp; try with_reducible rfl)
                                  try simp only [Act.put, List.setIfInBounds_toArray, List.set_cons_zero, List.set_cons_succ]
                                  refine wpAnyH_take (i := 2) (oi := _) (v := ?_) (by simp only [List.getElem?_toArray, List.getElem?_cons_succ, List.getElem?_cons_zero]; rfl) (by kernel_rfl) (by kernel_rfl) (by kernel_rfl) (by intro _ _ _ h; exact h) (Or.inl ⟨by rfl, ?_⟩) (by assumption) ?_
                                  rotate_left 1
                                  · (intro w hSw; (try dsimp only at hSw); go_simp; try with_reducible rfl)
                                  try simp only [Act.put, List.setIfInBounds_toArray, List.set_cons_zero, List.set_cons_succ]
                                  refine wpAnyH_take (i := 3) (oi := _) (v := ?_) (by simp only [List.getElem?_toArray, List.getElem?_cons_succ, List.getElem?_cons_zero]; rfl) (by kernel_rfl) (by kernel_rfl) (by kernel_rfl) (by intro _ _ _ h; exact h) (Or.inl ⟨by rfl, ?_⟩) (by assumption) ?_
                                  rotate_left 1
                                  · (intro w hSw; (try dsimp only at hSw); go_simp; try with_reducible rfl)
                                  try simp only [Act.put, List.setIfInBounds_toArray, List.set_cons_zero, List.set_cons_succ]
                                  refine wpAnyH_take (i := 4) (oi := _) (v := ?_) (by simp only [List.getElem?_toArray, List.getElem?_cons_succ, List.getElem?_cons_zero]; rfl) (by kernel_rfl) (by kernel_rfl) (by kernel_rfl) (by intro _ _ _ h; exact h) (Or.inl ⟨by rfl, ?_⟩) (by assumption) ?_
                                  rotate_left 1
                                  · (intro w hSw; (try dsimp only at hSw); go_simp; try with_reducible rfl)
                                  try simp only [Act.put, List.setIfInBounds_toArray, List.set_cons_zero, List.set_cons_succ]
                                  refine wpAnyH_take (i := 5) (oi := _) (v := ?_) (by simp only [List.getElem?_toArray, List.getElem?_cons_succ, List.getElem?_cons_zero]; rfl) (by kernel_rfl) (by kernel_rfl) (by kernel_rfl) (by intro _ _ _ h; exact h) (Or.inl ⟨by rfl, ?_⟩) (by assumption) ?_
                                  rotate_left 1
                                  · (intro w hSw; (try dsimp only at hSw); go_simp; try with_reducible rfl)
                                  try simp only [Act.put, List.setIfInBounds_toArray, List.set_cons_zero, List.set_cons_succ]
                                  refine wpAnyH_take (i := 6) (oi := _) (v := ?_) (by simp only [List.getElem?_toArray, List.getElem?_cons_succ, List.getElem?_cons_zero]; rfl) (by kernel_rfl) (by kernel_rfl) (by kernel_rfl) (by intro _ _ _ h; exact h) (Or.inl ⟨by rfl, ?_⟩) (by assumption) ?_
                                  rotate_left 1
                                  · (intro w hSw; (try dsimp only at hSw); go_simp; try with_reducible rfl)
                                  try simp only [Act.put, List.setIfInBounds_toArray, List.set_cons_zero, List.set_cons_succ]
                                  refine wpAnyH_take (i := 9) (oi := _) (v := ?_) (by simp only [List.getElem?_toArray, List.getElem?_cons_succ, List.getElem?_cons_zero]; rfl) (by kernel_rfl) (by kernel_rfl) (by kernel_rfl) (by intro _ _ _ h; exact h) (Or.inl ⟨by rfl, ?_⟩) (by assumption) ?_
                                  rotate_left 1
                                  · (intro w hSw; (try dsimp only at hSw); go_simp; try with_reducible rfl)
                                  try simp only [Act.put, List.setIfInBounds_toArray, List.set_cons_zero, List.set_cons_succ]
                                  refine wpAnyH_take (i := 10) (oi := _) (v := ?_) (by simp only [List.getElem?_toArray, List.getElem?_cons_succ, List.getElem?_cons_zero]; rfl) (by kernel_rfl) (by kernel_rfl) (by kernel_rfl) (by intro _ _ _ h; exact h) (Or.inl ⟨by rfl, ?_⟩) (by assumption) ?_
                                  rotate_left 1
                                  · (intro w hSw; (try dsimp only at hSw); go_simp; try with_reducible rfl)
                                  try simp only [Act.put, List.setIfInBounds_toArray, List.set_cons_zero, List.set_cons_succ]
                                  refine wpAnyH_take (i := 11) (oi := _) (v := ?_) (by simp only [List.getElem?_toArray, List.getElem?_cons_succ, List.getElem?_cons_zero]; rfl) (by kernel_rfl) (by kernel_rfl) (by kernel_rfl) (by intro _ _ _ h; exact h) (Or.inl ⟨by rfl, ?_⟩) (by assumption) ?_
                                  rotate_left 1
                                  · (intro w hSw; (try dsimp only at hSw); go_simp; try with_reducible rfl)
                                  try simp only [Act.put, List.setIfInBounds_toArray, List.set_cons_zero, List.set_cons_succ]
                                  refine wpAnyH_ready (rs := [7]) (by kernel_rfl) (by simp) ?_
                                  refine AllReadyH.cons (by simp only [List.getElem?_toArray, List.getElem?_cons_succ, List.getElem?_cons_zero]; rfl) (fun K hK => ?_) AllReadyH.nil
                                  go_simp
                                  refine hK.out _ _ (by trivial) (fun hHeld => ?_)
                                  clear hK K
                                  try simp only [Act.put, List.setIfInBounds_toArray, List.set_cons_zero, List.set_cons_succ]
                                  refine wpAnyH_ready (rs := [8]) (by kernel_rfl) (by simp) ?_
                                  refine AllReadyH.cons (by simp only [List.getElem?_toArray, List.getElem?_cons_succ, List.getElem?_cons_zero]; rfl) (fun K hK => ?_) AllReadyH.nil
                                  go_simp
                                  refine hK.out _ _ (by trivial) (fun hHeld => ?_)
                                  clear hK K
                                  try simp only [Act.put, List.setIfInBounds_toArray, List.set_cons_zero, List.set_cons_succ]
                                  refine wpAnyH_ready (rs := [12]) (by kernel_rfl) (by simp) ?_
                                  refine AllReadyH.cons (by simp only [List.getElem?_toArray, List.getElem?_cons_succ, List.getElem?_cons_zero]; rfl) (fun K hK => ?_) AllReadyH.nil
                                  (refine step_app _ (by rfl) (.tmp 146) (.tmp 149) (by rfl) (by rfl) (by exact own_tm _ yi yt _) (by rfl) (l2 := off.drop j) (by exact Sl.of_own (OD.out.alloc _)) hbd1 ?_; intro A5 c5 w5 ho5 hg5 hb5)
                                  refine hK.out _ _ (by trivial) (fun hHeld => ?_)
                                  clear hK K
                                  try simp only [Act.put, List.setIfInBounds_toArray, List.set_cons_zero, List.set_cons_succ]
                                  refine wpAnyH_ready (rs := [13]) (by kernel_rfl) (by simp) ?_
                                  refine AllReadyH.cons (by simp only [List.getElem?_toArray, List.getElem?_cons_succ, List.getElem?_cons_zero]; rfl) (fun K hK => ?_) AllReadyH.nil
                                  (refine step_app w5 (by rfl) (.tmp 141) (.tmp 150) (by rfl) (by rfl) (ot5 OT.out HW2.out hg5) (by rfl) (Sl.of_own (own_app ho5)) hbd2 ?_; intro A6 c6 w6 ho6 hg6 hb6)
                                  refine hK.out _ _ (by trivial) (fun hHeld => ?_)
                                  clear hK K
                                  try simp only [Act.put, List.setIfInBounds_toArray, List.set_cons_zero, List.set_cons_succ]
                                  refine wpAnyH_take (i := 14) (oi := _) (v := ?_) (by simp only [List.getElem?_toArray, List.getElem?_cons_succ, List.getElem?_cons_zero]; rfl) (by kernel_rfl) (by kernel_rfl) (by kernel_rfl) (by intro _ _ _ h; exact h) (Or.inl ⟨by rfl, ?_⟩) (by assumption) ?_
                                  rotate_left 1
                                  · (intro w hSw; (try dsimp only at hSw); go_simp; try with_reducible rfl)
                                  try simp only [Act.put, List.setIfInBounds_toArray, List.set_cons_zero, List.set_cons_succ]
                                  refine wpAnyH_done (by kernel_rfl) ?_ _
                                  obtain ⟨hG6, hl6, hs6⟩ := HG2.out.gone2 hkl HY.out (Int.not_lt.2 (show yt ≤ tm by have h := HLT.out; omega)) hj HJ.out HJ2.out HW2.out (by rfl) hg5 hg6 ho6 hb6
                                  have HG6 := Lib.hid hG6
                                  have HL6 := Lib.hid hl6
                                  have HS6 := Lib.hid hs6
                                  clear hG6 hl6 hs6 ho5 hg5 hb5 ho6 hg6 hb6
                                  go_wp2_with fail
                                  all_goals
                                    rw [← HL.out]
                                    go_roundg (l.length - (k + 1))
                                    case measure => omega
                                    case rel => exact ⟨k + 1, off.take j ++ ([⟨yi, yt⟩] ++ off.drop j), A1, A6, c1, c6, n1, by omega, Lib.hid (by rw [HS6.out, hn1.out]), rfl, by rw [HL6.out], by go_num, HG6, by omega⟩
                            · as_aux_lemma =>
                                have d1 : ¬ (j : Int) < (off.length : Int) := by omega
                                have HJ2 := Lib.hid (show ∀ h : j < off.length, ltOf cf off[j] ⟨yi, yt⟩ = false from fun h => absurd h (by omega))
                                have OT := Lib.hid (HG2.out.o2.cut1 hj)
                                have OD := Lib.hid (HG2.out.o2.cut3 hj)
                                have hcc := HG2.out.o2.2.1
                                have v1 : (j : Int) ≤ (off.length : Int) := by omega
                                have v2 : (j : Int) ≤ (c2 : Int) := by omega
                                have v3 : (off.length : Int) ≤ (c2 : Int) := by omega
                                have v4 : (0 : Int) ≤ (j : Int) := by omega
                                have hbd1 : 1 + (off.length - j) ≤ 1000 := by omega
                                go_wp2_with fail
                                refine wp_region_held_drew (S := (fun _ => True)) (by kernel_rfl) (by trivial) (fun hHeld => ?_)
                                refine wpAnyH_take (i := 0) (oi := _) (v := ?_) (by simp only [List.getElem?_toArray, List.getElem?_cons_succ, List.getElem?_cons_zero]; rfl) (by kernel_rfl) (by kernel_rfl) (by kernel_rfl) (by intro _ _ _ h; exact h) (Or.inl ⟨by rfl, ?_⟩) (by assumption) ?_
                                rotate_left 1
                                · (intro w hSw; (try dsimp only at hSw); go_simp; try with_reducible rfl)
                                try simp only [Act.put, List.setIfInBounds_toArray, List.set_cons_zero, List.set_cons_succ]
                                refine wpAnyH_take (i := 1) (oi := _) (v := ?_) (by simp only [List.getElem?_toArray, List.getElem?_cons_succ, List.getElem?_cons_zero]; rfl) (by kernel_rfl) (by kernel_rfl) (by kernel_rfl) (by intro _ _ _ h; exact h) (Or.inl ⟨by rfl, ?_⟩) (by assumption) ?_
                                rotate_left 1
                                · (intro w hSw; (try dsimp only at hSw); go_simp; try with_reducible rfl)
                                try simp only [Act.put, List.setIfInBounds_toArray, List.set_cons_zero, List.set_cons_succ]
                                refine wpAnyH_take (i := 2) (oi := _) (v := ?_) (by simp only [List.getElem?_toArray, List.getElem?_cons_succ, List.getElem?_cons_zero]; rfl) (by kernel_rfl) (by kernel_rfl) (by kernel_rfl) (by intro _ _ _ h; exact h) (Or.inl ⟨by rfl, ?_⟩) (by assumption) ?_
                                rotate_left 1
                                · (intro w hSw; (try dsimp only at hSw); go_simp; try with_reducible rfl)
                                try simp only [Act.put, List.setIfInBounds_toArray, List.set_cons_zero, List.set_cons_succ]
                                refine wpAnyH_take (i := 3) (oi := _) (v := ?_) (by simp only [List.getElem?_toArray, List.getElem?_cons_succ, List.getElem?_cons_zero]; rfl) (by kernel_rfl) (by kernel_rfl) (by kernel_rfl) (by intro _ _ _ h; exact h) (Or.inl ⟨by rfl, ?_⟩) (by assumption) ?_
                                rotate_left 1
                                · (intro w hSw; (try dsimp only at hSw); go_simp; try with_reducible rfl)
                                try simp only [Act.put, List.setIfInBounds_toArray, List.set_cons_zero, List.set_cons_succ]
                                refine wpAnyH_take (i := 4) (oi := _) (v := ?_) (by simp only [List.getElem?_toArray, List.getElem?_cons_succ, List.getElem?_cons_zero]; rfl) (by kernel_rfl) (by kernel_rfl) (by kernel_rfl) (by intro _ _ _ h; exact h) (Or.inl ⟨by rfl, ?_⟩) (by assumption) ?_
                                rotate_left 1
                                · (intro w hSw; (try dsimp only at hSw); go_simp; try with_reducible rfl)
                                try simp only [Act.put, List.setIfInBounds_toArray, List.set_cons_zero, List.set_cons_succ]
                                refine wpAnyH_take (i := 5) (oi := _) (v := undef) (by simp only [List.getElem?_toArray, List.getElem?_cons_succ, List.getElem?_cons_zero]; rfl) (by kernel_rfl) (by kernel_rfl) (by kernel_rfl) (by intro _ _ _ h; exact h) (Or.inr ⟨by rfl, rfl⟩) (by assumption) ?_
                                try simp only [Act.put, List.setIfInBounds_toArray, List.set_cons_zero, List.set_cons_succ]
                                refine wpAnyH_take (i := 6) (oi := _) (v := undef) (by simp only [List.getElem?_toArray, List.getElem?_cons_succ, List.getElem?_cons_zero]; rfl) (by kernel_rfl) (by kernel_rfl) (by kernel_rfl) (by intro _ _ _ h; exact h) (Or.inr ⟨by rfl, rfl⟩) (by assumption) ?_
                                try simp only [Act.put, List.setIfInBounds_toArray, List.set_cons_zero, List.set_cons_succ]
                                refine wpAnyH_take (i := 7) (oi := _) (v := undef) (by simp only [List.getElem?_toArray, List.getElem?_cons_succ, List.getElem?_cons_zero]; rfl) (by kernel_rfl) (by kernel_rfl) (by kernel_rfl) (by intro _ _ _ h; exact h) (Or.inr ⟨by rfl, rfl⟩) (by assumption) ?_
                                try simp only [Act.put, List.setIfInBounds_toArray, List.set_cons_zero, List.set_cons_succ]
                                refine wpAnyH_take (i := 8) (oi := _) (v := undef) (by simp only [List.getElem?_toArray, List.getElem?_cons_succ, List.getElem?_cons_zero]; rfl) (by kernel_rfl) (by kernel_rfl) (by kernel_rfl) (by intro _ _ _ h; exact h) (Or.inr ⟨by rfl, rfl⟩) (by assumption) ?_
                                try simp only [Act.put, List.setIfInBounds_toArray, List.set_cons_zero, List.set_cons_succ]
                                refine wpAnyH_take (i := 9) (oi := _) (v := undef) (by simp only [List.getElem?_toArray, List.getElem?_cons_succ, List.getElem?_cons_zero]; rfl) (by kernel_rfl) (by kernel_rfl) (by kernel_rfl) (by intro _ _ _ h; exact h) (Or.inr ⟨by rfl, rfl⟩) (by assumption) ?_
                                try simp only [Act.put, List.setIfInBounds_toArray, List.set_cons_zero, List.set_cons_succ]
                                refine wpAnyH_take (i := 10) (oi := _) (v := undef) (by simp only [List.getElem?_toArray, List.getElem?_cons_succ, List.getElem?_cons_zero]; rfl) (by kernel_rfl) (by kernel_rfl) (by kernel_rfl) (by intro _ _ _ h; exact h) (Or.inr ⟨by rfl, rfl⟩) (by assumption) ?_
                                try simp only [Act.put, List.setIfInBounds_toArray, List.set_cons_zero, List.set_cons_succ]
                                refine wpAnyH_take (i := 11) (oi := _) (v := undef) (by simp only [List.getElem?_toArray, List.getElem?_cons_succ, List.getElem?_cons_zero]; rfl) (by kernel_rfl) (by kernel_rfl) (by kernel_rfl) (by intro _ _ _ h; exact h) (Or.inr ⟨by rfl, rfl⟩) (by assumption) ?_
                                try simp only [Act.put, List.setIfInBounds_toArray, List.set_cons_zero, List.set_cons_succ]
                                refine wpAnyH_take (i := 12) (oi := _) (v := undef) (by simp only [List.getElem?_toArray, List.getElem?_cons_succ, List.getElem?_cons_zero]; rfl) (by kernel_rfl) (by kernel_rfl) (by kernel_rfl) (by intro _ _ _ h; exact h) (Or.inr ⟨by rfl, rfl⟩) (by assumption) ?_
                                try simp only [Act.put, List.setIfInBounds_toArray, List.set_cons_zero, List.set_cons_succ]
                                refine wpAnyH_take (i := 13) (oi := _) (v := undef) (by simp only [List.getElem?_toArray, List.getElem?_cons_succ, List.getElem?_cons_zero]; rfl) (by kernel_rfl) (by kernel_rfl) (by kernel_rfl) (by intro _ _ _ h; exact h) (Or.inr ⟨by rfl, rfl⟩) (by assumption) ?_
                                try simp only [Act.put, List.setIfInBounds_toArray, List.set_cons_zero, List.set_cons_succ]
                                refine wpAnyH_take (i := 14) (oi := _) (v := undef) (by simp only [List.getElem?_toArray, List.getElem?_cons_succ, List.getElem?_cons_zero]; rfl) (by kernel_rfl) (by kernel_rfl) (by kernel_rfl) (by intro _ _ _ h; exact h) (Or.inr ⟨by rfl, rfl⟩) (by assumption) ?_
                                try simp only [Act.put, List.setIfInBounds_toArray, List.set_cons_zero, List.set_cons_succ]
                                refine wpAnyH_take (i := 15) (oi := _) (v := undef) (by simp only [List.getElem?_toArray, List.getElem?_cons_succ, List.getElem?_cons_zero]; rfl) (by kernel_rfl) (by kernel_rfl) (by kernel_rfl) (by intro _ _ _ h; exact h) (Or.inr ⟨by rfl, rfl⟩) (by assumption) ?_
                                try simp only [Act.put, List.setIfInBounds_toArray, List.set_cons_zero, List.set_cons_succ]
                                refine wpAnyH_take (i := 16) (oi := _) (v := undef) (by simp only [List.getElem?_toArray, List.getElem?_cons_succ, List.getElem?_cons_zero]; rfl) (by kernel_rfl) (by kernel_rfl) (by kernel_rfl) (by intro _ _ _ h; exact h) (Or.inr ⟨by rfl, rfl⟩) (by assumption) ?_
                                try simp only [Act.put, List.setIfInBounds_toArray, List.set_cons_zero, List.set_cons_succ]
                                refine wpAnyH_take (i := 17) (oi := _) (v := undef) (by simp only [List.getElem?_toArray, List.getElem?_cons_succ, List.getElem?_cons_zero]; rfl) (by kernel_rfl) (by kernel_rfl) (by kernel_rfl) (by intro _ _ _ h; exact h) (Or.inr ⟨by rfl, rfl⟩) (by assumption) ?_
                                try simp only [Act.put, List.setIfInBounds_toArray, List.set_cons_zero, List.set_cons_succ]
                                refine wpAnyH_take (i := 18) (oi := _) (v := undef) (by simp only [List.getElem?_toArray, List.getElem?_cons_succ, List.getElem?_cons_zero]; rfl) (by kernel_rfl) (by kernel_rfl) (by kernel_rfl) (by intro _ _ _ h; exact h) (Or.inr ⟨by rfl, rfl⟩) (by assumption) ?_
                                try simp only [Act.put, List.setIfInBounds_toArray, List.set_cons_zero, List.set_cons_succ]
                                refine wpAnyH_take (i := 19) (oi := _) (v := undef) (by simp only [List.getElem?_toArray, List.getElem?_cons_succ, List.getElem?_cons_zero]; rfl) (by kernel_rfl) (by kernel_rfl) (by kernel_rfl) (by intro _ _ _ h; exact h) (Or.inr ⟨by rfl, rfl⟩) (by assumption) ?_
                                try simp only [Act.put, List.setIfInBounds_toArray, List.set_cons_zero, List.set_cons_succ]
                                refine wpAnyH_take (i := 20) (oi := _) (v := undef) (by simp only [List.getElem?_toArray, List.getElem?_cons_succ, List.getElem?_cons_zero]; rfl) (by kernel_rfl) (by kernel_rfl) (by kernel_rfl) (by intro _ _ _ h; exact h) (Or.inr ⟨by rfl, rfl⟩) (by assumption) ?_
                                try simp only [Act.put, List.setIfInBounds_toArray, List.set_cons_zero, List.set_cons_succ]
                                refine wpAnyH_take (i := 21) (oi := _) (v := undef) (by simp only [List.getElem?_toArray, List.getElem?_cons_succ, List.getElem?_cons_zero]; rfl) (by kernel_rfl) (by kernel_rfl) (by kernel_rfl) (by intro _ _ _ h; exact h) (Or.inr ⟨by rfl, rfl⟩) (by assumption) ?_
                                try simp only [Act.put, List.setIfInBounds_toArray, List.set_cons_zero, List.set_cons_succ]
                                refine wpAnyH_take (i := 22) (oi := _) (v := undef) (by simp only [List.getElem?_toArray, List.getElem?_cons_succ, List.getElem?_cons_zero]; rfl) (by kernel_rfl) (by kernel_rfl) (by kernel_rfl) (by intro _ _ _ h; exact h) (Or.inr ⟨by rfl, rfl⟩) (by assumption) ?_
                                try simp only [Act.put, List.setIfInBounds_toArray, List.set_cons_zero, List.set_cons_succ]
                                refine wpAnyH_take (i := 23) (oi := _) (v := undef) (by simp only [List.getElem?_toArray, List.getElem?_cons_succ, List.getElem?_cons_zero]; rfl) (by kernel_rfl) (by kernel_rfl) (by kernel_rfl) (by intro _ _ _ h; exact h) (Or.inr ⟨by rfl, rfl⟩) (by assumption) ?_
                                try simp only [Act.put, List.setIfInBounds_toArray, List.set_cons_zero, List.set_cons_succ]
                                refine wpAnyH_take (i := 24) (oi := _) (v := undef) (by simp only [List.getElem?_toArray, List.getElem?_cons_succ, List.getElem?_cons_zero]; rfl) (by kernel_rfl) (by kernel_rfl) (by kernel_rfl) (by intro _ _ _ h; exact h) (Or.inr ⟨by rfl, rfl⟩) (by assumption) ?_
                                try simp only [Act.put, List.setIfInBounds_toArray, List.set_cons_zero, List.set_cons_succ]
                                refine wpAnyH_take (i := 25) (oi := _) (v := undef) (by simp only [List.getElem?_toArray, List.getElem?_cons_succ, List.getElem?_cons_zero]; rfl) (by kernel_rfl) (by kernel_rfl) (by kernel_rfl) (by intro _ _ _ h; exact h) (Or.inr ⟨by rfl, rfl⟩) (by assumption) ?_
                                try simp only [Act.put, List.setIfInBounds_toArray, List.set_cons_zero, List.set_cons_succ]
                                refine wpAnyH_take (i := 26) (oi := _) (v := undef) (by simp only [List.getElem?_toArray, List.getElem?_cons_succ, List.getElem?_cons_zero]; rfl) (by kernel_rfl) (by kernel_rfl) (by kernel_rfl) (by intro _ _ _ h; exact h) (Or.inr ⟨by rfl, rfl⟩) (by assumption) ?_
                                try simp only [Act.put, List.setIfInBounds_toArray, List.set_cons_zero, List.set_cons_succ]
                                refine wpAnyH_take (i := 27) (oi := _) (v := undef) (by simp only [List.getElem?_toArray, List.getElem?_cons_succ, List.getElem?_cons_zero]; rfl) (by kernel_rfl) (by kernel_rfl) (by kernel_rfl) (by intro _ _ _ h; exact h) (Or.inr ⟨by rfl, rfl⟩) (by assumption) ?_
                                try simp only [Act.put, List.setIfInBounds_toArray, List.set_cons_zero, List.set_cons_succ]
                                refine wpAnyH_take (i := 28) (oi := _) (v := undef) (by simp only [List.getElem?_toArray, List.getElem?_cons_succ, List.getElem?_cons_zero]; rfl) (by kernel_rfl) (by kernel_rfl) (by kernel_rfl) (by intro _ _ _ h; exact h) (Or.inr ⟨by rfl, rfl⟩) (by assumption) ?_
                                try simp only [Act.put, List.setIfInBounds_toArray, List.set_cons_zero, List.set_cons_succ]
                                refine wpAnyH_take (i := 29) (oi := _) (v := undef) (by simp only [List.getElem?_toArray, List.getElem?_cons_succ, List.getElem?_cons_zero]; rfl) (by kernel_rfl) (by kernel_rfl) (by kernel_rfl) (by intro _ _ _ h; exact h) (Or.inr ⟨by rfl, rfl⟩) (by assumption) ?_
                                try simp only [Act.put, List.setIfInBounds_toArray, List.set_cons_zero, List.set_cons_succ]
                                refine wpAnyH_take (i := 30) (oi := _) (v := undef) (by simp only [List.getElem?_toArray, List.getElem?_cons_succ, List.getElem?_cons_zero]; rfl) (by kernel_rfl) (by kernel_rfl) (by kernel_rfl) (by intro _ _ _ h; exact h) (Or.inr ⟨by rfl, rfl⟩) (by assumption) ?_
                                try simp only [Act.put, List.setIfInBounds_toArray, List.set_cons_zero, List.set_cons_succ]
                                refine wpAnyH_take (i := 31) (oi := _) (v := undef) (by simp only [List.getElem?_toArray, List.getElem?_cons_succ, List.getElem?_cons_zero]; rfl) (by kernel_rfl) (by kernel_rfl) (by kernel_rfl) (by intro _ _ _ h; exact h) (Or.inr ⟨by rfl, rfl⟩) (by assumption) ?_
                                try simp only [Act.put, List.setIfInBounds_toArray, List.set_cons_zero, List.set_cons_succ]
                                refine wpAnyH_take (i := 32) (oi := _) (v := undef) (by simp only [List.getElem?_toArray, List.getElem?_cons_succ, List.getElem?_cons_zero]; rfl) (by kernel_rfl) (by kernel_rfl) (by kernel_rfl) (by intro _ _ _ h; exact h) (Or.inr ⟨by rfl, rfl⟩) (by assumption) ?_
                                try simp only [Act.put, List.setIfInBounds_toArray, List.set_cons_zero, List.set_cons_succ]
                                refine wpAnyH_take (i := 33) (oi := _) (v := undef) (by simp only [List.getElem?_toArray, List.getElem?_cons_succ, List.getElem?_cons_zero]; rfl) (by kernel_rfl) (by kernel_rfl) (by kernel_rfl) (by intro _ _ _ h; exact h) (Or.inr ⟨by rfl, rfl⟩) (by assumption) ?_
                                try simp only [Act.put, List.setIfInBounds_toArray, List.set_cons_zero, List.set_cons_succ]
                                refine wpAnyH_take (i := 34) (oi := _) (v := undef) (by simp only [List.getElem?_toArray, List.getElem?_cons_succ, List.getElem?_cons_zero]; rfl) (by kernel_rfl) (by kernel_rfl) (by kernel_rfl) (by intro _ _ _ h; exact h) (Or.inr ⟨by rfl, rfl⟩) (by assumption) ?_
                                try simp only [Act.put, List.setIfInBounds_toArray, List.set_cons_zero, List.set_cons_succ]
                                refine wpAnyH_take (i := 35) (oi := _) (v := undef) (by simp only [List.getElem?_toArray, List.getElem?_cons_succ, List.getElem?_cons_zero]; rfl) (by kernel_rfl) (by kernel_rfl) (by kernel_rfl) (by intro _ _ _ h; exact h) (Or.inr ⟨by rfl, rfl⟩) (by assumption) ?_
                                try simp only [Act.put, List.setIfInBounds_toArray, List.set_cons_zero, List.set_cons_succ]
                                refine wpAnyH_take (i := 36) (oi := _) (v := undef) (by simp only [List.getElem?_toArray, List.getElem?_cons_succ, List.getElem?_cons_zero]; rfl) (by kernel_rfl) (by kernel_rfl) (by kernel_rfl) (by intro _ _ _ h; exact h) (Or.inr ⟨by rfl, rfl⟩) (by assumption) ?_
                                try simp only [Act.put, List.setIfInBounds_toArray, List.set_cons_zero, List.set_cons_succ]
                                refine wpAnyH_take (i := 37) (oi := _) (v := undef) (by simp only [List.getElem?_toArray, List.getElem?_cons_succ, List.getElem?_cons_zero]; rfl) (by kernel_rfl) (by kernel_rfl) (by kernel_rfl) (by intro _ _ _ h; exact h) (Or.inr ⟨by rfl, rfl⟩) (by assumption) ?_
                                try simp only [Act.put, List.setIfInBounds_toArray, List.set_cons_zero, List.set_cons_succ]
                                refine wpAnyH_take (i := 38) (oi := _) (v := undef) (by simp only [List.getElem?_toArray, List.getElem?_cons_succ, List.getElem?_cons_zero]; rfl) (by kernel_rfl) (by kernel_rfl) (by kernel_rfl) (by intro _ _ _ h; exact h) (Or.inr ⟨by rfl, rfl⟩) (by assumption) ?_
                                try simp only [Act.put, List.setIfInBounds_toArray, List.set_cons_zero, List.set_cons_succ]
                                refine wpAnyH_take (i := 39) (oi := _) (v := undef) (by simp only [List.getElem?_toArray, List.getElem?_cons_succ, List.getElem?_cons_zero]; rfl) (by kernel_rfl) (by kernel_rfl) (by kernel_rfl) (by intro _ _ _ h; exact h) (Or.inr ⟨by rfl, rfl⟩) (by assumption) ?_
                                try simp only [Act.put, List.setIfInBounds_toArray, List.set_cons_zero, List.set_cons_succ]
                                refine wpAnyH_take (i := 40) (oi := _) (v := undef) (by simp only [List.getElem?_toArray, List.getElem?_cons_succ, List.getElem?_cons_zero]; rfl) (by kernel_rfl) (by kernel_rfl) (by kernel_rfl) (by intro _ _ _ h; exact h) (Or.inr ⟨by rfl, rfl⟩) (by assumption) ?_
                                try simp only [Act.put, List.setIfInBounds_toArray, List.set_cons_zero, List.set_cons_succ]
                                refine wpAnyH_take (i := 41) (oi := _) (v := undef) (by simp only [List.getElem?_toArray, List.getElem?_cons_succ, List.getElem?_cons_zero]; rfl) (by kernel_rfl) (by kernel_rfl) (by kernel_rfl) (by intro _ _ _ h; exact h) (Or.inr ⟨by rfl, rfl⟩) (by assumption) ?_
                                try simp only [Act.put, List.setIfInBounds_toArray, List.set_cons_zero, List.set_cons_succ]
                                refine wpAnyH_take (i := 42) (oi := _) (v := ?_) (by simp only [List.getElem?_toArray, List.getElem?_cons_succ, List.getElem?_cons_zero]; rfl) (by kernel_rfl) (by kernel_rfl) (by kernel_rfl) (by intro _ _ _ h; exact h) (Or.inl ⟨by rfl, ?_⟩) (by assumption) ?_
                                rotate_left 1
                                · (intro w hSw; (try dsimp only at hSw); go_simp; try with_reducible rfl)
                                try simp only [Act.put, List.setIfInBounds_toArray, List.set_cons_zero, List.set_cons_succ]
                                refine wpAnyH_done (by kernel_rfl) ?_ _
                                go_wp2_with fail
                                have HW2 := Lib.hid ((Mod.refl (fun _ => False) wr).drew.drew)
                                have hbd2 : j + (1 + (off.length - j)) ≤ 1000 := by omega
                                refine wp_region_held_drew (S := (fun _ => True)) (by kernel_rfl) (by trivial) (fun hHeld => ?_)
                                refine wpAnyH_take (i := 0) (oi := _) (v := ?_) (by simp only [List.getElem?_toArray, List.getElem?_cons_succ, List.getElem?_cons_zero]; rfl) (by kernel_rfl) (by kernel_rfl) (by kernel_rfl) (by intro _ _ _ h; exact h) (Or.inl ⟨by rfl, ?_⟩) (by assumption) ?_
                                rotate_left 1
                                · (intro w hSw; (try dsimp only at hSw); go_simp; try with_reducible rfl)
                                try simp only [Act.put, List.setIfInBounds_toArray, List.set_cons_zero, List.set_cons_succ]
                                refine wpAnyH_take (i := 1) (oi := _) (v := ?_) (by simp only [List.getElem?_toArray, List.getElem?_cons_succ, List.getElem?_cons_zero]; rfl) (by kernel_rfl) (by kernel_rfl) (by kernel_rfl) (by intro _ _ _ h; exact h) (Or.inl ⟨by rfl, ?_⟩) (by assumption) ?_
                                rotate_left 1
                                · (intro w hSw; (try dsimp only at hSw); go_simp; try with_reducible rfl)
                                try simp only [Act.put, List.setIfInBounds_toArray, List.set_cons_zero, List.set_cons_succ]
                                refine wpAnyH_take (i := 2) (oi := _) (v := ?_) (by simp only [List.getElem?_toArray, List.getElem?_cons_succ, List.getElem?_cons_zero]; rfl) (by kernel_rfl) (by kernel_rfl) (by kernel_rfl) (by intro _ _ _ h; exact h) (Or.inl ⟨by rfl, ?_⟩) (by assumption) ?_
                                rotate_left 1
                                · (intro w hSw; (try dsimp only at hSw); go_simp; try with_reducible rfl)
                                try simp only [Act.put, List.setIfInBounds_toArray, List.set_cons_zero, List.set_cons_succ]
                                refine wpAnyH_take (i := 3) (oi := _) (v := ?_) (by simp only [List.getElem?_toArray, List.getElem?_cons_succ, List.getElem?_cons_zero]; rfl) (by kernel_rfl) (by kernel_rfl) (by kernel_rfl) (by intro _ _ _ h; exact h) (Or.inl ⟨by rfl, ?_⟩) (by assumption) ?_
                                rotate_left 1
                                · (intro w hSw; (try dsimp only at hSw); go_simp; try with_reducible rfl)
                                try simp only [Act.put, List.setIfInBounds_toArray, List.set_cons_zero, List.set_cons_succ]
                                refine wpAnyH_take (i := 4) (oi := _) (v := ?_) (by simp only [List.getElem?_toArray, List.getElem?_cons_succ, List.getElem?_cons_zero]; rfl) (by kernel_rfl) (by kernel_rfl) (by kernel_rfl) (by intro _ _ _ h; exact h) (Or.inl ⟨by rfl, ?_⟩) (by assumption) ?_
                                rotate_left 1
                                · (intro w hSw; (try dsimp only at hSw); go_simp; try with_reducible rfl)
                                try simp only [Act.put, List.setIfInBounds_toArray, List.set_cons_zero, List.set_cons_succ]
                                refine wpAnyH_take (i := 5) (oi := _) (v := ?_) (by simp only [List.getElem?_toArray, List.getElem?_cons_succ, List.getElem?_cons_zero]; rfl) (by kernel_rfl) (by kernel_rfl) (by kernel_rfl) (by intro _ _ _ h; exact h) (Or.inl ⟨by rfl, ?_⟩) (by assumption) ?_
                                rotate_left 1
                                · (intro w hSw; (try dsimp only at hSw); go_simp; try with_reducible rfl)
                                try simp only [Act.put, List.setIfInBounds_toArray, List.set_cons_zero, List.set_cons_succ]
                                refine wpAnyH_take (i := 6) (oi := _) (v := ?_) (by simp only [List.getElem?_toArray, List.getElem?_cons_succ, List.getElem?_cons_zero]; rfl) (by kernel_rfl) (by kernel_rfl) (by kernel_rfl) (by intro _ _ _ h; exact h) (Or.inl ⟨by rfl, ?_⟩) (by assumption) ?_
                                rotate_left 1
                                · (intro w hSw; (try dsimp only at hSw); go_simp; try with_reducible rfl)
                                try simp only [Act.put, List.setIfInBounds_toArray, List.set_cons_zero, List.set_cons_succ]
                                refine wpAnyH_take (i := 9) (oi := _) (v := ?_) (by simp only [List.getElem?_toArray, List.getElem?_cons_succ, List.getElem?_cons_zero]; rfl) (by kernel_rfl) (by kernel_rfl) (by kernel_rfl) (by intro _ _ _ h; exact h) (Or.inl ⟨by rfl, ?_⟩) (by assumption) ?_
                                rotate_left 1
                                · (intro w hSw; (try dsimp only at hSw); go_simp; try with_reducible rfl)
                                try simp only [Act.put, List.setIfInBounds_toArray, List.set_cons_zero, List.set_cons_succ]
                                refine wpAnyH_take (i := 10) (oi := _) (v := ?_) (by simp only [List.getElem?_toArray, List.getElem?_cons_succ, List.getElem?_cons_zero]; rfl) (by kernel_rfl) (by kernel_rfl) (by kernel_rfl) (by intro _ _ _ h; exact h) (Or.inl ⟨by rfl, ?_⟩) (by assumption) ?_
                                rotate_left 1
                                · (intro w hSw; (try dsimp only at hSw); go_simp; try with_reducible rfl)
                                try simp only [Act.put, List.setIfInBounds_toArray, List.set_cons_zero, List.set_cons_succ]
                                refine wpAnyH_take (i := 11) (oi := _) (v := ?_) (by simp only [List.getElem?_toArray, List.getElem?_cons_succ, List.getElem?_cons_zero]; rfl) (by kernel_rfl) (by kernel_rfl) (by kernel_rfl) (by intro _ _ _ h; exact h) (Or.inl ⟨by rfl, ?_⟩) (by assumption) ?_
                                rotate_left 1
                                · (intro w hSw; (try dsimp only at hSw); go_simp; try with_reducible rfl)
                                try simp only [Act.put, List.setIfInBounds_toArray, List.set_cons_zero, List.set_cons_succ]
                                refine wpAnyH_ready (rs := [7]) (by kernel_rfl) (by simp) ?_
                                refine AllReadyH.cons (by simp only [List.getElem?_toArray, List.getElem?_cons_succ, List.getElem?_cons_zero]; rfl) (fun K hK => ?_) AllReadyH.nil
                                go_simp
                                refine hK.out _ _ (by trivial) (fun hHeld => ?_)
                                clear hK K
                                try simp only [Act.put, List.setIfInBounds_toArray, List.set_cons_zero, List.set_cons_succ]
                                refine wpAnyH_ready (rs := [8]) (by kernel_rfl) (by simp) ?_
                                refine AllReadyH.cons (by simp only [List.getElem?_toArray, List.getElem?_cons_succ, List.getElem?_cons_zero]; rfl) (fun K hK => ?_) AllReadyH.nil
                                go_simp
                                refine hK.out _ _ (by trivial) (fun hHeld => ?_)
                                clear hK K
                                try simp only [Act.put, List.setIfInBounds_toArray, List.set_cons_zero, List.set_cons_succ]
                                refine wpAnyH_ready (rs := [12]) (by kernel_rfl) (by simp) ?_
                                refine AllReadyH.cons (by simp only [List.getElem?_toArray, List.getElem?_cons_succ, List.getElem?_cons_zero]; rfl) (fun K hK => ?_) AllReadyH.nil
                                (refine step_app _ (by rfl) (.tmp 146) (.tmp 149) (by rfl) (by rfl) (by exact own_tm _ yi yt _) (by rfl) (l2 := off.drop j) (by exact Sl.of_own (OD.out.alloc _)) hbd1 ?_; intro A5 c5 w5 ho5 hg5 hb5)
                                refine hK.out _ _ (by trivial) (fun hHeld => ?_)
                                clear hK K
                                try simp only [Act.put, List.setIfInBounds_toArray, List.set_cons_zero, List.set_cons_succ]
                                refine wpAnyH_ready (rs := [13]) (by kernel_rfl) (by simp) ?_
                                refine AllReadyH.cons (by simp only [List.getElem?_toArray, List.getElem?_cons_succ, List.getElem?_cons_zero]; rfl) (fun K hK => ?_) AllReadyH.nil
                                (refine step_app w5 (by rfl) (.tmp 141) (.tmp 150) (by rfl) (by rfl) (ot5 OT.out HW2.out hg5) (by rfl) (Sl.of_own (own_app ho5)) hbd2 ?_; intro A6 c6 w6 ho6 hg6 hb6)
                                refine hK.out _ _ (by trivial) (fun hHeld => ?_)
                                clear hK K
                                try simp only [Act.put, List.setIfInBounds_toArray, List.set_cons_zero, List.set_cons_succ]
                                refine wpAnyH_take (i := 14) (oi := _) (v := ?_) (by simp only [List.getElem?_toArray, List.getElem?_cons_succ, List.getElem?_cons_zero]; rfl) (by kernel_rfl) (by kernel_rfl) (by kernel_rfl) (by intro _ _ _ h; exact h) (Or.inl ⟨by rfl, ?_⟩) (by assumption) ?_
                                rotate_left 1
                                · (intro w hSw; (try dsimp only at hSw); go_simp; try with_reducible rfl)
                                try simp only [Act.put, List.setIfInBounds_toArray, List.set_cons_zero, List.set_cons_succ]
                                refine wpAnyH_done (by kernel_rfl) ?_ _
                                obtain ⟨hG6, hl6, hs6⟩ := HG2.out.gone2 hkl HY.out (Int.not_lt.2 (show yt ≤ tm by have h := HLT.out; omega)) hj HJ.out HJ2.out HW2.out (by rfl) hg5 hg6 ho6 hb6
                                have HG6 := Lib.hid hG6
                                have HL6 := Lib.hid hl6
                                have HS6 := Lib.hid hs6
                                clear hG6 hl6 hs6 ho5 hg5 hb5 ho6 hg6 hb6
                                go_wp2_with fail
                                all_goals
                                  rw [← HL.out]
                                  go_roundg (l.length - (k + 1))
                                  case measure => omega
                                  case rel => exact ⟨k + 1, off.take j ++ ([⟨yi, yt⟩] ++ off.drop j), A1, A6, c1, c6, n1, by omega, Lib.hid (by rw [HS6.out, hn1.out]), rfl, by rw [HL6.out], by go_num, HG6, by omega⟩
                    · as_aux_lemma =>
                        have hke : k = l.length := by omega
                        subst hke
                        obtain ⟨l2, hl2, hS5, hoff, hmm⟩ := SP3.out.gone HG.out hn1.out HPS.out hm1 HM2.out HM3.out
                        subst hl2
                        subst hmm
                        have OB2 : Hid (Own w3 1 B off.length d (icT (off.map Tm.id))) := Lib.hid (by have h := OB.out; rw [hoff] at h; exact h)
                        have S5 := Lib.hid hS5
                        have HMw := Lib.hid HG.out.m
                        have O2 := Lib.hid HG.out.o2
                        have hl2l : l2.length ≤ 60 := by omega
                        clear hS5 hoff OB HM2 HM3 HPS HG hn1 hm1 SP3
                        go_wp2_with fail
                        go_loopg [18] off.length (fun m'' v18 wx => ∃ q : Nat, q ≤ off.length ∧ v18 = .int .i64 q ∧ Hid (Mod (fun _ => False) wr wx) ∧ m'' + q = off.length)
                        case atStart => exact ⟨0, by omega, rfl, Lib.hid (Mod.refl _ _), by omega⟩
                        case round =>
                          obtain ⟨q, hq, rfl, HMq, hm''⟩ := hrel
                          by_cases hql : q < off.length
                          · as_aux_lemma =>
                              obtain ⟨gB, oB, hB, hgB, y0⟩ := got_at ((OB2.out.mod HMw.out (by simp)).mod HMq.out (by simp)) hql
                              obtain ⟨gO, oO, hO, hgO, y1, _⟩ := (Sl.of_own (O2.out.mod HMq.out (by simp))).tm hql
                              have HB := Lib.hid hB
                              have HO := Lib.hid hO
                              have jj0 : (0 : Int) ≤ (q : Int) := by omega
                              have jj1 : (q : Int) < (off.length : Int) := by omega
                              generalize off[q].id = u at y0 y1
                              rw [hB, hO]
                              clear hB hO
                              go_wp2_with fail
                              go_quiet (fail)
                              go_wp2_with fail
                              rw [← HB.out, ← HO.out]
                              go_roundg (off.length - (q + 1))
                              case measure => omega
                              case rel => exact ⟨q + 1, by omega, by go_num, Lib.hid (HMq.out.drewN _), by omega⟩
                          · as_aux_lemma =>
                              have S6 := Lib.hid (S5.out.none_ HMq.out)
                              have HSame := Lib.hid (S6.out.same (by omega))
                              have hne : ¬ (q : Int) < (off.length : Int) := by omega
                              go_wp2_with fail
                              with_reducible refine HSame.out.mono ?_
                              intro e w5 h5
                              obtain ⟨he5, hst5⟩ := h5
                              subst he5
                              have S7 := Lib.hid hst5
                              clear hst5 HSame S6 S5
                              go_wp2_with fail
                              rw [← HA1.out]
                              go_roundg (60 - (i + 1))
                              case measure => omega
                              case rel => exact ⟨i + 1, tm, lw.drop off.length, l2, F, A1, c1, by omega, by omega, by omega, rfl, rfl, by go_num, S7, by omega⟩
              · as_aux_lemma =>
                  have hgo2 : timeB tm = false ∨ tm < now := by
                    by_cases c1 : timeB tm = true
                    · exact .inr (Int.not_le.1 (fun h => hgo ⟨c1, h⟩))
                    · exact .inl (by simpa using c1)
                  have HGo := Lib.hid (go_bad g F now tm lw wr HS.out.hw hgo2)
                  have HG2 := Lib.hid hgo2
                  clear hgo hgo2 HIx
                  go_wp2_with fail
                  with_reducible refine HGo.out.mono ?_
                  intro e w3 h3
                  obtain ⟨he3, m3⟩ := h3
                  subst he3
                  have S3 := Lib.hid (HS.out.none_ m3)
                  have HX3 := HX.out.mod m3 (by simp)
                  have t2 : w3.cell? ⟨x, 2, none⟩ = some (.int .i64 tm) := HX3.1 2 _ rfl
                  have HSame := Lib.hid (S3.out.same (by omega))
                  clear m3 r0 r1 r2 HS HX HX3 HGo
                  go_wp2_with fail
                  have HTi := Lib.hid (timeR tm w3)
                  with_reducible refine HTi.out.mono ?_
                  rintro e w4 ⟨rfl, rfl⟩
                  clear HTi
                  cases htb : timeB tm
                  · clear htb
                    go_wp2_with fail
                    go_loopg [18] 0 (fun m'' v18 wx => v18 = .int .i64 0 ∧ w3 = wx ∧ m'' = 0)
                    case atStart => exact ⟨rfl, rfl, rfl⟩
                    case round =>
                      obtain ⟨rfl, rfl, rfl⟩ := hrel
                      go_wp2_with fail
                      with_reducible refine HSame.out.mono ?_
                      intro e w5 h5
                      obtain ⟨he5, hst5⟩ := h5
                      subst he5
                      have S5 := Lib.hid hst5
                      clear hst5 HSame S3
                      go_wp2_with fail
                      rw [← HA1.out]
                      go_roundg (60 - (i + 1))
                      case measure => omega
                      case rel => exact ⟨i + 1, now, lw, l, F, L, cL, by omega, by omega, by omega, rfl, rfl, by go_num, S5, by omega⟩
                  · have hlt : tm < now := by
                      rcases HG2.out with h | h
                      · rw [htb] at h; cases h
                      · exact h
                    have hlt2 : ¬ now ≤ tm := by omega
                    clear htb
                    go_wp2_with fail
                    go_loopg [18] 0 (fun m'' v18 wx => v18 = .int .i64 0 ∧ w3 = wx ∧ m'' = 0)
                    case atStart => exact ⟨rfl, rfl, rfl⟩
                    case round =>
                      obtain ⟨rfl, rfl, rfl⟩ := hrel
                      go_wp2_with fail
                      with_reducible refine HSame.out.mono ?_
                      intro e w5 h5
                      obtain ⟨he5, hst5⟩ := h5
                      subst he5
                      have S5 := Lib.hid hst5
                      clear hst5 HSame S3
                      go_wp2_with fail
                      rw [← HA1.out]
                      go_roundg (60 - (i + 1))
                      case measure => omega
                      case rel => exact ⟨i + 1, now, lw, l, F, L, cL, by omega, by omega, by omega, rfl, rfl, by go_num, S5, by omega⟩
      · have hend : len1 ≤ i ∨ (i < len1 ∧ 60 ≤ i) := by omega
        have HSame := Lib.hid (HS.out.same (by omega))
        clear hin
        rcases hend with hend | ⟨hend, hend2⟩
        all_goals
          go_wp2_with fail
          refine HSame.out.mono ?_
          rintro e w5 ⟨rfl, hst5⟩
          have HB5 := Lib.hid hst5.hb
          clear hst5 HSame
          go_wp2_with fail
          go_ret
          exact ⟨rfl, HB5.out⟩
/-! ### the row's step -/
theorem own : ownKnob Try.prog.godebug = none := by kernel_rfl
theorem laidOut : laidOutB Try.prog = true := by kernel_rfl
set_option maxRecDepth 100000 in
theorem lifted (os : Os) (started : os.Started) (H : Type) (enc : TypeId × Value → H) :
    ReturnsInHanded {} Try.checked os 3 .any (Rows.wheelAllSpec.pre6 enc Try.prog Try.f3 Rows.wheelAllRow.domain false) (Rows.wheelAllSpec.post enc Try.prog Try.f3 false true false false) := by
  refine returnsInHanded_of_change (C := Try.checked) own started (by kernel_rfl) Try.func3
    (ChangeSpec.witness6 (enc := enc) (C := Try.checked) false ⟨#[], #[.int .i64 0, .slice none 0 0], []⟩ 8 (by kernel_rfl) (by kernel_rfl) (by kernel_rfl) (by kernel_rfl)) ?_
  intro W base args ds gs before hval0 hW hcnd _
  have hval : ∀ (j : Nat) t v, Try.f3.params[j]? = some t → args[j]? = some v → Value.okWide Try.prog W .any base t v := hval0
  have hW' := hW
  obtain ⟨p, q, hA0, hV, rfl, hfz, hnd⟩ := hW
  have hA : DataW.TrodAll enc Try.prog W 0 (fun _ => true) true Try.f3.params.toList args.toList ds p := hA0
  rw [Try.params3] at hA hval
  obtain ⟨v0, vs0, d0, ds0, p0, q0, hargs, rfl, rfl, h0, r0⟩ := trodAll_cons hA
  obtain ⟨v1, vs1, d1, ds1, p1, q1, rfl, rfl, rfl, h1, r1⟩ := trodAll_cons r0
  obtain ⟨rfl, rfl, rfl⟩ := trodAll_nil r1
  obtain rfl : args = #[v0, v1] := by cases args; simp_all
  obtain ⟨rfl, rfl⟩ := trodVars_none hV
  have k0 := h0
  have lt0 : ∀ x ∈ p0, x.block < W.heap.size := by obtain ⟨m, hm⟩ := k0; exact DataW.trod_lt m _ _ _ hm
  have k1 := h1
  have lt1 : ∀ x ∈ p1, x.block < W.heap.size := by obtain ⟨m, hm⟩ := k1; exact DataW.trod_lt m _ _ _ hm
  obtain ⟨a0, rfl, rfl, rfl, w0⟩ := open_int Try.underlying2 (hval 0 2 v0 rfl rfl) h0
  obtain ⟨a1, len1, cap1, rfl⟩ := okWide_slice Try.underlying22 (hval 1 22 v1 rfl rfl)
  have w1 : OpRow W a1 len1 cap1 := OpRow.open_ h1
  clear hA0 hval0
  refine (walk a0 a1 len1 cap1 W w0 w1).mono fun e W' ⟨he, bel⟩ => ?_
  subst he
  exact ⟨_, rfl, _, _, _, [], _, [], hW', trodAll_mk1 (shut_bool Try.underlying4 _), (trodAll_cons_mk (Below.trod laidOut (by kernel_rfl) (of_decide_eq_true (by kernel_rfl)) k0 bel lt0) (trodAll_cons_mk (Below.trod laidOut (by kernel_rfl) (of_decide_eq_true (by kernel_rfl)) k1 bel lt1) trodAll_mk0)), rfl, bel.frame _, fun h => by cases h⟩

theorem over : Rows.wheelAllRow.holds Try.pinned (OpenSpec.ofChange Rows.wheelAllSpec) :=
  OpenClaim.holds_of_wide 3 Try.f3 rfl rfl rfl rfl rfl rfl rfl ⟨rfl, rfl, rfl, rfl, rfl⟩ rfl rfl rfl rfl rfl (by kernel_rfl) Try.func3 (by kernel_rfl)
    (of_decide_eq_true (by kernel_rfl)) (by unfold Func.isWrapper; first | (rw [if_pos (by decide +kernel)]; kernel_rfl) | (rw [if_neg (by decide +kernel)]; exact ⟨rfl, rfl⟩))
    (fun os started H enc _ => lifted os started H enc)

theorem proved : Rows.WheelAllSaid := over
#print axioms proved
end Go.Proofs.Ytnfhmflcaolbbaa.wheelAll
