/- Proved: curfewlaw6.OnceOrder answers true for every number and every list of asks, and leaves what came in as it was. No condition. -/
import Derived.Test.YtgioelaagedlbaaOnceO
import Derived.OwnWalk
namespace Go.Proofs.Ytgioelaagedlbaa.onceOrder
open Go.ChangeShapes Go.WideShapes Go.ChangeAt Go.RowKit
set_option linter.unusedVariables false
set_option linter.unusedSimpArgs false
attribute [local go_sem ↓] Go.wp_at_zero Go.wp_at_succ

theorem pick_m (a : Int) (n : Nat) (h0 : 0 < n) (hn : n ≤ 64) : ∃ k : Nat, k < n ∧ (wrap64 (a.tmod (n : Int) + n)).tmod (n : Int) = k := by
  have h1 := Int.tmod_lt_of_pos a (show 0 < (n : Int) by omega)
  have h2 := Int.lt_tmod_of_pos a (show 0 < (n : Int) by omega)
  generalize a.tmod (n : Int) = b at *
  have e1 : wrap64 (b + (n : Int)) = b + n := IntWalk.wrap64_in _ ⟨by omega, by omega⟩
  rw [e1]
  clear e1
  have h3 := Int.tmod_lt_of_pos (b + (n : Int)) (show 0 < (n : Int) by omega)
  have h4 : 0 ≤ (b + (n : Int)).tmod (n : Int) := Int.tmod_nonneg _ (by omega)
  generalize (b + (n : Int)).tmod (n : Int) = r at *
  exact ⟨r.toNat, by omega, by omega⟩
theorem made_zero (n : Nat) : (madeCells (Value.int .i64 0).cells (n * 1)).toList = ic (List.replicate n 0) := by
  have e : (Value.int .i64 0).cells = #[.int .i64 0] := rfl
  rw [e]
  unfold madeCells ic
  apply List.ext_getElem
  · simp
  · intro i h1 h2
    simp [Nat.mod_one]
theorem info_int : (Try.prog.info? 3).map (fun i => (i.zero, i.size, i.bytes)) = some (some (.int .i64 0), 1, 8) := by kernel_rfl

/-- the cells ahead of f are made, each once; the others are not -/
def St (W0 : World) (hM hx hl b0 lo N : Nat) (A : Option Addr) (c : Nat) (b g : Nat → Nat) (f : Nat) (w : World) : Prop :=
  OB hM hx hl b0 N A c b g w ∧ lo ≤ w.heap.size ∧ Below W0.heap.size W0 w ∧ (∃ ms, ms.length = N ∧ Own w 1 (some ⟨hM, 0, none⟩) N N (ic ms) ∧ ∀ j, j < N → ms[j]? = some (if j < f then 1 else 0)) ∧
  (∀ j, j < N → j < f → ∃ hi, Hot w (g j) (PK b0 (b j)) (upto j) lo hi ∧ hi ≤ w.heap.size) ∧ ∀ j, j < N → f ≤ j → Cells w (g j) (cold (PK b0 (b j)))
theorem St.get {W0 w : World} {hM hx hl b0 lo N : Nat} {A : Option Addr} {c : Nat} {b g : Nat → Nat} {f : Nat} (hf : FixO hM hx hl b0 lo N A b g) (hNm : N ≤ 64) (hW0 : W0.heap.size ≤ hM) (h : St W0 hM hx hl b0 lo N A c b g f w) {k : Nat} (hk : k < N) (hfN : f ≤ N) :
    Calls Try.prog 12 #[.pointer (some ⟨g k, 0, none⟩)] w fun e w' => ∃ A2 c2, e = .returned (.slice A2 (k + 1) c2) ∧ Own w' 1 A2 (k + 1) c2 (ic (upto k)) ∧ St W0 hM hx hl b0 lo N A c b g (max f (k + 1)) w' := by
  obtain ⟨p1, p2, p3, ⟨ms, p4, p5, p6⟩, p7, p8⟩ := h
  have a1 := hf.a1
  have a2 := hf.a2
  have a3 := hf.a3
  have a4 := hf.a4
  by_cases hkf : k < f
  · obtain ⟨hi, hot, hhi⟩ := p7 k hk hkf
    refine (get_again (g k) _ w (upto k) lo hi hot (by rw [upto_len]; omega)).mono ?_
    rintro e w' ⟨A2, c2, rfl, o2, m2, b2⟩
    rw [upto_len] at o2
    refine ⟨A2, c2, by rw [upto_len], o2, ?_⟩
    rw [show max f (k + 1) = f by omega]
    exact ⟨p1.mod hf m2 (by simp), Nat.le_trans p2 m2.size, Mod.below p3 m2 (by simp), ⟨ms, p4, p5.mod m2 (by simp), p6⟩, fun j h1 h2 => by
      obtain ⟨hi, h3, h4⟩ := p7 j h1 h2
      exact ⟨hi, h3.mod m2 (by simp) (by simp), Nat.le_trans h4 m2.size⟩, fun j h1 h2 => (p8 j h1 h2).mod m2 (by simp)⟩
  · refine (ord_get hf hNm k f w ms hk (by omega) p1 p4 p5 p2 (fun j h1 h2 => ⟨p8 j (by omega) h1, by rw [p6 j (by omega), if_neg (by omega)]⟩) (fun h => by
      obtain ⟨hi, h3, h4⟩ := p7 (f - 1) (by omega) (by omega)
      exact ⟨hi, h3⟩)).mono ?_
    rintro e w' ⟨A2, c2, top, rfl, o2, b2, t2, ⟨j1, j2, j3, ms', j4, j5⟩, m2⟩
    refine ⟨A2, c2, rfl, o2, ?_⟩
    rw [show max f (k + 1) = k + 1 by omega]
    have hF : ∀ q, Fl hM g f (k + 1) q → q = hM ∨ ∃ j, j < N ∧ f ≤ j ∧ j < k + 1 ∧ q = g j := fun q e => by
      rcases e with e | ⟨j, x1, x2, e⟩
      · exact .inl e
      · exact .inr ⟨j, by omega, x1, x2, e⟩
    refine ⟨p1.mod hf m2 (fun q e => by rcases hF q e with e | ⟨j, x1, _, _, e⟩; exact .inl e; exact .inr (.inl ⟨j, x1, e⟩)), Nat.le_trans p2 m2.size, Mod.below p3 m2 (fun q e => ?_), ⟨ms', by rw [j4.1]; exact p4, j5, fun j hj => ?_⟩, fun j h1 h2 => ?_, fun j h1 h2 => ?_⟩
    · rcases hF q e with e | ⟨j, x1, _, _, e⟩
      · omega
      · have := hf.h2 j x1; omega
    · rw [j4.2 j (by omega)]
      by_cases e : f ≤ j ∧ j < k + 1
      · rw [if_pos e, if_pos (by omega)]
      · rw [if_neg e, p6 j hj]
        by_cases e2 : j < f
        · rw [if_pos e2, if_pos (by omega)]
        · rw [if_neg e2, if_neg (by omega)]
    · by_cases e : f ≤ j
      · exact ⟨top, j3 j e h2, j1⟩
      · obtain ⟨hi, h3, h4⟩ := p7 j h1 (by omega)
        refine ⟨hi, h3.mod m2 (fun e2 => ?_) (fun q e2 => .inl ?_), Nat.le_trans h4 m2.size⟩
        · rcases hF _ e2 with e2 | ⟨i, x1, x2, x3, e2⟩
          · have := hf.h2 j h1; omega
          · exact (hf.apart h1 x1).2 (by omega) e2
        · rcases hF _ e2 with e2 | ⟨i, x1, x2, x3, e2⟩
          · omega
          · have := hf.h2 i x1; omega
    · refine (p8 j h1 (by omega)).mod m2 fun e2 => ?_
      rcases hF _ e2 with e2 | ⟨i, x1, x2, x3, e2⟩
      · have := hf.h2 j h1; omega
      · exact (hf.apart h1 x1).2 (by omega) e2

set_option maxRecDepth 100000 in
set_option maxHeartbeats 6400000 in
theorem walk (a0 : Int) (a1 : Option Addr) (len1 cap1 : Nat) (z1 : Nat → Int) (w : World) (w0 : (Lit.int .i64 a0).wf = true) (w1 : IntsAt .i64 w a1 len1 z1) :
    Calls Try.prog 7 #[.int .i64 a0, .slice a1 len1 cap1] w fun e w' => e = .returned (.bool true) ∧ Below w.heap.size w w' := by
  have hmf : ∀ (fn : Fn) (first cap : Array Value) (w : World), (Instr.makeFunc fn first cap).run Try.prog w = .ok (.func fn first cap) w := fun _ _ _ _ => rfl
  obtain ⟨i0, hi0, hz0, hz1, hz2⟩ := info_parts info_int
  have HI := Lib.hid hi0
  have HZ0 := Lib.hid hz0
  have HZ1 := Lib.hid hz1
  have HZ2 := Lib.hid hz2
  have HZ := Lib.hid w1
  have hb1 := w1.1
  unfold maxLen at hb1
  clear w0 w1 hi0 hz0 hz1 hz2
  go_enter Try.func7, Try.ntmps7
  go_wp2_with fail
  refine (begun_any _).mono ?_
  rintro e wb ⟨rfl, hb⟩
  have HB := Lib.hid hb
  clear hb
  by_cases hk : 1 ≤ a0 ∧ a0 ≤ 20
  · obtain ⟨hk1, hk2⟩ := hk
    obtain ⟨N, rfl⟩ : ∃ N : Nat, a0 = N := ⟨a0.toNat, by omega⟩
    have hN1 : 1 ≤ N := by omega
    have hN2 : N ≤ 20 := by omega
    have hbw := HB.out.size
    go_wp2_with (first | (refine wpList_make_full _ rfl _ _ _ rfl 0 3 i0 _ 1 Try.underlying31 HI.out HZ0.out HZ1.out .i64 .i64 _ _ N rfl rfl rfl rfl (by rw [HZ2.out]; omega) (by unfold maxLen; omega) (Nat.zero_le _) ?_; intro wM hrow hgrow))
    obtain ⟨AM, cM, eM, oM, _⟩ := Own.of_row hrow
    injection eM with eM1 _ eM3
    subst eM1 eM3
    rw [made_zero] at oM
    have hMl : wb.heap.size < wM.heap.size := oM.lt (g := wb.heap.size) rfl
    have hx2 := Lib.hid ((Cells.new wM #[.slice (some ⟨wb.heap.size, 0, none⟩) N N] 31).alloc (.cells #[.slice none 0 0] 33))
    have hl2a := Cells.new (wM.alloc (.cells #[.slice (some ⟨wb.heap.size, 0, none⟩) N N] 31)) #[.slice none 0 0] 33
    have om2 := Lib.hid ((oM.alloc (.cells #[.slice (some ⟨wb.heap.size, 0, none⟩) N N] 31)).alloc (.cells #[.slice none 0 0] 33))
    have B2 := Lib.hid (Mod.below HB.out (((((Mod.refl (fun _ => False) wb).grown hgrow (by simp)).alloc (.cells #[.slice (some ⟨wb.heap.size, 0, none⟩) N N] 31)).alloc (.cells #[.slice none 0 0] 33))) (by simp))
    have hs2 : ((wM.alloc (.cells #[.slice (some ⟨wb.heap.size, 0, none⟩) N N] 31)).alloc (.cells #[.slice none 0 0] 33)).heap.size = wM.heap.size + 2 := by simp
    have hl2 := Lib.hid (show Cells ((wM.alloc (.cells #[.slice (some ⟨wb.heap.size, 0, none⟩) N N] 31)).alloc (.cells #[.slice none 0 0] 33)) (wM.heap.size + 1) [.slice none 0 0] by simpa using hl2a)
    clear hl2a
    generalize (wM.alloc (.cells #[.slice (some ⟨wb.heap.size, 0, none⟩) N N] 31)).alloc (.cells #[.slice none 0 0] 33) = w2 at *
    generalize wb.heap.size = hM at *
    generalize wM.heap.size = hx at *
    clear oM hrow hgrow HB
    have hpl := pool_any (N : Int) 17 #[] #[.pointer (some ⟨hx, 0, none⟩), .pointer (some ⟨hx + 1, 0, none⟩)] w2
    rw [show (min (max (N : Int) 0) 64).toNat = N by omega] at hpl
    have HPL := Lib.hid hpl
    clear hpl
    refine HPL.out.mono ?_
    rintro e w3 ⟨A, c, b0, b, g, rfl, o3, p3, hb0, hA, m3⟩
    have hcl := o3.2.1
    have hcm := o3.2.2.1
    unfold maxLen at hcm
    have hl3 := hl2.out.mod m3 (by simp)
    have c3 : w3.cell? ⟨hx + 1, 0, none⟩ = some (.slice none 0 0) := hl3.1 0 _ rfl
    have f3 := hl3.2.1 0
    have hbl := p3.1.2.2
    have hfx : FixO hM hx (hx + 1) b0 w3.heap.size N A b g := ⟨by omega, by omega, by omega, hbl, fun j hj => ⟨(p3.2.1 j hj).1, (p3.2.1 j hj).2.1, p3.lt hj⟩, p3.2.2, fun q e => ⟨(hA q e).1, o3.lt e, (hA q e).2⟩⟩
    have hm4 := (Mod.refl (fun q => q = (hx + 1)) w3).setCell (p := ⟨hx + 1, 0, none⟩) (.inl rfl) (.slice A N c)
    have hst : St w hM hx (hx + 1) b0 w3.heap.size N A c b g 0 (w3.setCell ⟨hx + 1, 0, none⟩ (.slice A N c)) := by
      have hgl : ∀ j, j < N → ¬ b j = (hx + 1) ∧ ¬ g j = (hx + 1) := fun j hj => by have := hfx.h2 j hj; omega
      refine ⟨⟨(hx2.out.mod m3 (by simp)).mod hm4 (by omega), hl3.set_ 0 _, o3.mod hm4 (fun q e h => by have := hA q e; omega), p3.1.mod hm4 (by omega), fun j hj => (p3.2.1 j hj).2.2.1.mod hm4 (hgl j hj).1⟩, hm4.size, Mod.below (Mod.below B2.out m3 (by simp)) hm4 (fun q e => by omega), ⟨List.replicate N 0, by simp, (om2.out.mod m3 (by simp)).mod hm4 (fun q e h => by have e2 : hM = q := Option.some.inj e; omega), fun j hj => by rw [if_neg (by omega), List.getElem?_replicate, if_pos hj]⟩, fun j _ h => absurd h (by omega), fun j hj _ => (p3.2.1 j hj).2.2.2.mod hm4 (hgl j hj).2⟩
    have HFX := Lib.hid hfx
    have HST := Lib.hid hst
    generalize w3.heap.size = lo at *
    have hW0 : w.heap.size ≤ hM := hbw
    clear hfx hst hm4 hl3 hbl p3 o3 hA m3 HPL hx2 hl2 om2 B2 hs2
    go_wp2_with fail
    go_loopg [8, 9, 10, 11] 20 (fun m v8 v9 v10 v11 wr => ∃ i f : Nat, i ≤ 20 ∧ i ≤ len1 ∧ f ≤ N ∧ v9 = .int .i64 i ∧ v8 = .int .i64 ((f : Int) - 1) ∧ Hid (St w hM hx (hx + 1) b0 lo N A c b g f wr) ∧ m + i = 20)
    case atStart => exact ⟨0, 0, by omega, by omega, by omega, rfl, rfl, HST, by omega⟩
    case round =>
      obtain ⟨i, f, hi, hil, hfN, rfl, rfl, HS, hm2⟩ := hrel
      by_cases hin : i < len1 ∧ i < 20
      · obtain ⟨h1, h2⟩ := hin
        obtain ⟨bb, ob, hA1, hbb, q0, hwf⟩ := HZ.out.at_ h1
        have q1 := (HS.out.2.2.1.cell (p := ⟨bb, ob + i, none⟩) hbb).trans q0
        have HA1 := Lib.hid hA1
        have i0 : (0 : Int) ≤ (i : Int) := by omega
        have i1 : (i : Int) < (len1 : Int) := by omega
        have hN0 : ¬ (N : Int) = 0 := by omega
        have HPick := Lib.hid (pick_m (z1 i) N (by omega) (by omega))
        clear hwf q0
        generalize z1 i = x at *
        rw [hA1]
        clear hA1
        go_upto_region 13 with (fail)
        go_cut [10] (fun s10 wx => ∃ k : Nat, k < N ∧ s10 = .int .i64 k ∧ wr = wx)
        case first =>
          go_wp2_with fail
          go_meet
          obtain ⟨k, hk, hke⟩ := HPick.out
          exact ⟨k, hk, by rw [hke], rfl⟩
        case rest =>
          obtain ⟨k, hk, rfl, rfl⟩ := hcut
          clear HPick q1
          go_upto_region 14 with (fail)
          go_cut [8] (fun s8 wx => s8 = .int .i64 (((max f (k + 1) : Nat) : Int) - 1) ∧ wr = wx)
          case first =>
            go_wp2_with fail
            all_goals
              go_meet
              refine ⟨?_, rfl⟩
              show Value.int .i64 _ = Value.int .i64 _
              congr 1
              omega
          case rest =>
            obtain ⟨rfl, rfl⟩ := hcut
            have hget := HS.out.get HFX.out (by omega) hW0 hk hfN
            have c5 : wr.cell? ⟨hx + 1, 0, none⟩ = some (.slice A N c) := HS.out.1.2.1.1 0 _ rfl
            obtain ⟨gA, oA, hAA, hgA, hAx⟩ := HS.out.1.2.2.1.at_ (pcells_at g hk)
            have HG := Lib.hid hget
            have k0 : (0 : Int) ≤ (k : Int) := by omega
            have k1 : (k : Int) < (N : Int) := by omega
            have k2 : (k : Int) < (k : Int) + 1 := by omega
            have k3 : (0 : Int) < (k : Int) + 1 := by omega
            have hw1 : wrap64 ((k : Int) + 1) = (k : Int) + 1 := IntWalk.wrap64_in _ ⟨by omega, by omega⟩
            have hf2 : max f (k + 1) ≤ N := Nat.max_le.2 ⟨hfN, hk⟩
            have HAA := Lib.hid hAA
            rw [hAA] at c5 ⊢
            clear hget hAA
            generalize max f (k + 1) = f2 at *
            generalize g k = gk at *
            go_wp2_with fail
            refine HG.out.mono ?_
            rintro e w2 ⟨A2, c2, rfl, o2, s2⟩
            obtain ⟨gx, ox, hx', hgx, y0⟩ := o2.at_ (upto_at k (Nat.zero_le k))
            obtain ⟨gx', ox', hx'', _, y1⟩ := o2.at_ (upto_at k (Nat.le_refl k))
            rw [hx'] at hx''
            injection hx'' with hx''
            injection hx'' with e1 e2
            subst e1 e2
            simp only [Nat.add_zero, Int.natCast_zero, Int.zero_add] at y0
            have S2 := Lib.hid s2
            clear o2 s2 HG c5 hAx
            have HX := Lib.hid hx'
            rw [hx']
            clear hx'
            go_wp2_with fail
            rw [← HA1.out, ← HAA.out]
            go_roundg (20 - (i + 1))
            case measure => omega
            case rel => exact ⟨i + 1, f2, by omega, by omega, hf2, by go_num, rfl, S2, by omega⟩
      · have hend : len1 ≤ i ∨ (i < len1 ∧ 20 ≤ i) := by omega
        clear hin HST
        rcases hend with h1 | ⟨h1, h2⟩
        all_goals
          go_wp2_with fail
          obtain ⟨wo, rfl⟩ : ∃ wo : World, wo = wr := ⟨_, rfl⟩
          go_loopg [12, 13] N (fun m v12 v13 wr => ∃ i : Nat, i ≤ N ∧ v12 = .int .i64 i ∧ wo = wr ∧ m + i = N)
          case atStart => exact ⟨0, by omega, rfl, rfl, by omega⟩
          case round =>
            obtain ⟨i, hi, rfl, rfl, hm3⟩ := hrel
            by_cases hlt : i < N
            · obtain ⟨p1, p2, p3, ⟨ms, p4, p5, p6⟩, p7, p8⟩ := HS.out
              have c5 : wo.cell? ⟨hx, 0, none⟩ = some (.slice (some ⟨hM, 0, none⟩) N N) := p1.1.1 0 _ rfl
              have hmi := p6 i hlt
              obtain ⟨gA, oA, hAA, hgA, x2⟩ := p5.at_ (j := i) (u := .int .i64 (if i < f then 1 else 0)) (by simp [ic, hmi])
              injection hAA with hAA
              injection hAA with e1 e2
              subst e1 e2
              rw [Nat.zero_add] at x2
              have i0 : (0 : Int) ≤ (i : Int) := by omega
              have i1 : (i : Int) < (N : Int) := by omega
              clear p1 p2 p3 p5 p6 p7 p8 hmi
              by_cases hif : i < f
              · rw [if_pos hif] at x2
                have i3 : (i : Int) ≤ (f : Int) - 1 := by omega
                go_wp2_with fail
                go_roundg (N - (i + 1))
                case measure => omega
                case rel => exact ⟨i + 1, by omega, by go_num, rfl, by omega⟩
              · rw [if_neg hif] at x2
                have i3 : (f : Int) - 1 < (i : Int) := by omega
                go_wp2_with fail
                go_roundg (N - (i + 1))
                case measure => omega
                case rel => exact ⟨i + 1, by omega, by go_num, rfl, by omega⟩
            · obtain rfl : i = N := by omega
              have hB := HS.out.2.2.1
              go_wp2_with fail
              go_ret
              exact ⟨rfl, hB⟩
  · have hend : a0 < 1 ∨ 20 < a0 := by omega
    clear hk
    rcases hend with h1 | h1
    all_goals
      go_wp2_with fail
      go_ret
      exact ⟨rfl, HB.out⟩
/-! ### the row's step -/
theorem own : ownKnob Try.prog.godebug = none := by kernel_rfl
theorem laidOut : laidOutB Try.prog = true := by kernel_rfl
set_option maxRecDepth 100000 in
theorem lifted (os : Os) (started : os.Started) (H : Type) (enc : TypeId × Value → H) :
    ReturnsInHanded {} Try.checked os 7 .any (Rows.onceOrderSpec.pre6 enc Try.prog Try.f7 Rows.onceOrderRow.domain false) (Rows.onceOrderSpec.post enc Try.prog Try.f7 false true false false) := by
  refine returnsInHanded_of_change (C := Try.checked) own started (by kernel_rfl) Try.func7
    (ChangeSpec.witness6 (enc := enc) (C := Try.checked) false ⟨#[], #[.int .i64 0, .slice none 0 0], []⟩ 8 (by kernel_rfl) (by kernel_rfl) (by kernel_rfl) (by kernel_rfl)) ?_
  intro W base args ds gs before hval0 hW hcnd _
  have hval : ∀ (j : Nat) t v, Try.f7.params[j]? = some t → args[j]? = some v → Value.okWide Try.prog W .any base t v := hval0
  have hW' := hW
  obtain ⟨p, q, hA0, hV, rfl, hfz, hnd⟩ := hW
  have hA : DataW.TrodAll enc Try.prog W 0 (fun _ => true) true Try.f7.params.toList args.toList ds p := hA0
  rw [Try.params7] at hA hval
  obtain ⟨v0, vs0, d0, ds0, p0, q0, hargs, rfl, rfl, h0, r0⟩ := trodAll_cons hA
  obtain ⟨v1, vs1, d1, ds1, p1, q1, rfl, rfl, rfl, h1, r1⟩ := trodAll_cons r0
  obtain ⟨rfl, rfl, rfl⟩ := trodAll_nil r1
  obtain rfl : args = #[v0, v1] := by cases args; simp_all
  obtain ⟨rfl, rfl⟩ := trodVars_none hV
  have k0 := h0
  have lt0 : ∀ x ∈ p0, x.block < W.heap.size := by obtain ⟨m, hm⟩ := k0; exact DataW.trod_lt m _ _ _ hm
  have k1 := h1
  have lt1 : ∀ x ∈ p1, x.block < W.heap.size := by obtain ⟨m, hm⟩ := k1; exact DataW.trod_lt m _ _ _ hm
  obtain ⟨a0, rfl, rfl, rfl, w0⟩ := open_int Try.underlying3 (hval 0 3 v0 rfl rfl) h0
  obtain ⟨a1, len1, cap1, rfl⟩ := okWide_slice Try.underlying31 (hval 1 31 v1 rfl rfl)
  obtain ⟨z1, w1⟩ := IntsAt.open_ Try.underlying31 Try.underlying3 (by kernel_rfl) h1
  clear hA0 hval0
  refine (walk a0 a1 len1 cap1 z1 W w0 w1).mono fun e W' ⟨he, bel⟩ => ?_
  subst he
  exact ⟨_, rfl, _, _, _, [], _, [], hW', trodAll_mk1 (shut_bool Try.underlying4 _), (trodAll_cons_mk (Below.trod laidOut (by kernel_rfl) (of_decide_eq_true (by kernel_rfl)) k0 bel lt0) (trodAll_cons_mk (Below.trod laidOut (by kernel_rfl) (of_decide_eq_true (by kernel_rfl)) k1 bel lt1) trodAll_mk0)), rfl, bel.frame _, fun h => by cases h⟩

theorem over : Rows.onceOrderRow.holds Try.pinned (OpenSpec.ofChange Rows.onceOrderSpec) :=
  OpenClaim.holds_of_wide 7 Try.f7 rfl rfl rfl rfl rfl rfl rfl ⟨rfl, rfl, rfl, rfl, rfl⟩ rfl rfl rfl rfl rfl (by kernel_rfl) Try.func7 (by kernel_rfl)
    (of_decide_eq_true (by kernel_rfl)) (by unfold Func.isWrapper; first | (rw [if_pos (by decide +kernel)]; kernel_rfl) | (rw [if_neg (by decide +kernel)]; exact ⟨rfl, rfl⟩))
    (fun os started H enc _ => lifted os started H enc)

theorem proved : Rows.OnceOrderSaid := over
#print axioms proved
end Go.Proofs.Ytgioelaagedlbaa.onceOrder
