/- Proved: curfewlaw23.PendingSeq answers true for every number, every start and every list of acts, and leaves what came in as it was. No condition. -/
import Derived.Test.YtbladkopbkkamaaPendF
namespace Go.Proofs.Ytbladkopbkkamaa.pendingSeq
open Go.ChangeShapes Go.WideShapes Go.ChangeAt Go.RowKit
set_option linter.unusedVariables false
set_option linter.unusedSimpArgs false
attribute [local go_sem ↓] Go.wp_at_zero Go.wp_at_succ

theorem and_mask (c : Int) (m : Nat) (hm : m < 9223372036854775808) : ∃ t : Nat, t ≤ m ∧ bits .and .i64 c (m : Int) = (t : Int) := by
  have h2 : (BitVec.ofInt 64 (m : Int)).toNat = m := by
    rw [BitVec.ofInt_natCast, BitVec.toNat_ofNat]; exact Nat.mod_eq_of_lt (by omega)
  have hle : (BitVec.ofInt 64 c).toNat &&& m ≤ m := Nat.and_le_right
  refine ⟨(BitVec.ofInt 64 c).toNat &&& m, hle, ?_⟩
  show IntKind.i64.wrap ((BitVec.ofInt 64 c &&& BitVec.ofInt 64 (m : Int)).toNat : Int) = _
  rw [BitVec.toNat_and, h2]
  generalize (BitVec.ofInt 64 c).toNat &&& m = t at *
  have e : ((t : Int)) % 2 ^ 64 = t := by omega
  simp only [IntKind.wrap, IntKind.bits, IntKind.signed, e]
  rw [if_neg (by simp; omega)]
/-- the numbers go up, none above sq -/
def Up (l : List En) (sq : Int) : Prop := (∀ j (h : j < l.length), l[j].se ≤ sq) ∧ ∀ j k (h1 : j < l.length) (h2 : k < l.length), j < k → l[j].se < l[k].se
theorem Up.nil (sq : Int) : Up [] sq := ⟨fun j h => absurd h (by simp), fun j k h => absurd h (by simp)⟩
theorem Up.snoc {l : List En} {sq : Int} (h : Up l sq) (e : En) (he : e.se = sq + 1) : Up (l ++ [e]) (sq + 1) := by
  refine ⟨fun j hj => ?_, fun j k hj hk hjk => ?_⟩
  · by_cases hl : j < l.length
    · rw [List.getElem_append_left hl]; have := h.1 j hl; omega
    · rw [List.getElem_append_right (by omega)]; simp; omega
  · have hk2 : k < l.length + 1 := by simpa using hk
    rw [List.getElem_append_left (show j < l.length by omega)]
    by_cases hl : k < l.length
    · rw [List.getElem_append_left hl]; exact h.2 j k (by omega) hl hjk
    · rw [List.getElem_append_right (by omega)]; have := h.1 j (by omega); simp; omega
theorem Up.tail {l : List En} {sq : Int} (h : Up l sq) : Up (l.drop 1) sq := by
  refine ⟨fun j hj => ?_, fun j k hj hk hjk => ?_⟩
  · rw [List.length_drop] at hj
    rw [List.getElem_drop]; exact h.1 _ (by omega)
  · rw [List.length_drop] at hj hk
    rw [List.getElem_drop, List.getElem_drop]; exact h.2 _ _ (by omega) (by omega) (by omega)
theorem same_se {a b : En} (h : a.se ≠ b.se) : same a b = false := by
  unfold same; simp [h]
theorem Up.done {l : List En} {sq : Int} (h : Up l sq) (hp : 0 < l.length) : (l.filter fun x => !(l.take 1).any fun u => same u x) = l.drop 1 := by
  cases l with
  | nil => simp at hp
  | cons a l =>
    have h1 : (a :: l).take 1 = [a] := rfl
    rw [h1]
    have ha : (!([a].any fun u => same u a)) = false := by simp [same]
    rw [List.filter_cons, if_neg (by rw [ha]; simp)]
    show _ = l
    refine List.filter_eq_self.2 fun x hx => ?_
    obtain ⟨j, hj, rfl⟩ := List.getElem_of_mem hx
    have := h.2 0 (j + 1) (by simp) (by simpa using hj) (by omega)
    simp only [List.getElem_cons_zero, List.getElem_cons_succ] at this
    simp [same_se (show a.se ≠ l[j].se by omega)]
theorem Up.again {l : List En} {sq : Int} (h : Up l sq) (hp : 0 < l.length) : ((l.drop 1).filter fun x => !(l.take 1).any fun u => same u x) = l.drop 1 := by
  have h2 := h.done hp
  conv => lhs; rw [← h2]
  rw [List.filter_filter]
  simp only [Bool.and_self]
  exact h2

set_option maxRecDepth 100000 in
set_option maxHeartbeats 6400000 in
theorem walk (a0 : Int) (a1 : Int) (a2 : Option Addr) (len2 cap2 : Nat) (z2 : Nat → Int) (w : World) (w0 : (Lit.int .i64 a0).wf = true) (w1 : (Lit.int .i64 a1).wf = true) (w2 : IntsAt .i64 w a2 len2 z2) :
    Calls Try.prog 9 #[.int .i64 a0, .int .i64 a1, .slice a2 len2 cap2] w fun e w' => e = .returned (.bool true) ∧ Below w.heap.size w w' := by
  have HZ := Lib.hid w2
  have hb1 := w2.1
  unfold maxLen at hb1
  clear w0 w1 w2
  obtain ⟨i0, hi0, hz0, hz1, hz2⟩ := info_parts info_en
  have HI := Lib.hid hi0
  have HZ0 := Lib.hid hz0
  have HZ1 := Lib.hid hz1
  have HZ2 := Lib.hid hz2
  clear hi0 hz0 hz1 hz2
  go_enter Try.func9, Try.ntmps9
  go_wp2_with fail
  refine (begunP_any _).mono ?_
  rintro e wb ⟨rfl, hb⟩
  have HB := Lib.hid hb
  clear hb
  by_cases hk : (1 ≤ a0 ∧ a0 ≤ 7) ∧ 1 ≤ a1 ∧ a1 ≤ 1099511627776
  · obtain ⟨⟨hk1, hk2⟩, hk3, hk4⟩ := hk
    go_wp2_with fail
    refine (newP_ok a0 a1 wb hk1 hk2 hk3 hk4).mono ?_
    rintro e wp ⟨g, rfl, pp, hg, mp⟩
    have PP := Lib.hid pp
    have BP := Lib.hid (Mod.below HB.out mp (by simp))
    have hgw : w.heap.size ≤ g := Nat.le_trans HB.out.size hg
    clear pp mp HB
    go_wp2_with fail
    go_loopg [9, 10, 11, 12, 13, 14, 15] 40 (fun m v9 v10 v11 v12 v13 v14 v15 wr => ∃ (i : Nat) (sq : Int) (l : List En) (F : Nat → Prop) (W : Option Addr) (d : Nat), i ≤ 40 ∧ i ≤ len2 ∧ 0 ≤ sq ∧ sq ≤ i ∧ l.length ≤ 4 ∧ v11 = .int .i64 i ∧ v9 = .int .i64 sq ∧ v10 = .slice W l.length d ∧
      Hid (IsP wr g F a0 a1 sq l) ∧ Hid (Own wr 7 W l.length d (ecells l)) ∧ Hid (∀ q, blk W = some q → w.heap.size ≤ q ∧ ¬ F q) ∧ Hid (∀ q, F q → w.heap.size ≤ q) ∧ Hid (Up l sq) ∧ Hid (Below w.heap.size w wr) ∧ m + i = 40)
    case atStart => exact ⟨0, 0, [], fun k => k = g, none, 0, by omega, by omega, by omega, by omega, by simp, rfl, rfl, rfl, PP, Lib.hid (Own.nil _ _), Lib.hid (by simp [blk]), Lib.hid (fun q e => by subst e; exact hgw), Lib.hid (Up.nil _), BP, by omega⟩
    case round =>
      obtain ⟨i, sq, l, F, W, d, hi, hil, hs0, hs1, hl4, rfl, rfl, rfl, HP, HW, HWF, HF, HU, HBW, hm⟩ := hrel
      by_cases hin : i < len2 ∧ i < 40
      · obtain ⟨h1, h2⟩ := hin
        obtain ⟨bb, ob, hA1, hbb, q0, hwf⟩ := HZ.out.at_ h1
        have q1 := (HBW.out.cell (p := ⟨bb, ob + i, none⟩) hbb).trans q0
        have HA1 := Lib.hid hA1
        have j0 : (0 : Int) ≤ (i : Int) := by omega
        have j1 : (i : Int) < (len2 : Int) := by omega
        have HN := Lib.hid (and_mask (z2 i) 3 (by omega))
        have hwd := HW.out.2.1
        have hwm := HW.out.2.2.1
        unfold maxLen at hwm
        clear hwf q0
        generalize z2 i = x at *
        rw [hA1]
        clear hA1
        go_upto_region 12 with (fail)
        go_cut [50] (fun s50 wx => ∃ t : Nat, t ≤ 3 ∧ s50 = .int .i64 t ∧ wr = wx)
        case first =>
          go_wp2_with fail
          go_meet
          obtain ⟨t, ht, hte⟩ := HN.out
          exact ⟨t, ht, by rw [← hte]; rfl, rfl⟩
        case rest =>
          obtain ⟨t, ht, rfl, rfl⟩ := hcut
          clear HN q1
          have ht4 : (t = 0 ∨ t = 1) ∨ t = 2 ∨ t = 3 := by omega
          rcases ht4 with ht4 | rfl | rfl
          · have hok : okB (newE a0 a1 sq 1 1 ⟨#[120]⟩) = true := by
              unfold okB newE
              simp only [Bool.and_eq_true, decide_eq_true_eq]
              refine ⟨⟨⟨⟨⟨⟨⟨⟨⟨⟨⟨⟨?_, ?_⟩, ?_⟩, ?_⟩, ?_⟩, ?_⟩, ?_⟩, ?_⟩, ?_⟩, ?_⟩, ?_⟩, ?_⟩, ?_⟩ <;> first | omega | decide
            by_cases hlt : l.length < 4
            · have HAdd := Lib.hid (addP_ok g F a0 a1 sq 1 1 ⟨#[120]⟩ l wr HP.out (by decide) (by omega) hok hlt)
              have hl4i : (l.length : Int) < 4 := by omega
              have hw1 : wrap64 (sq + 1) = sq + 1 := IntWalk.wrap64_in _ ⟨by omega, by omega⟩
              clear hok
              rcases ht4 with rfl | rfl
              all_goals
                go_wp2_with fail
                refine HAdd.out.mono ?_
                rintro e w3 ⟨F3, rfl, p3, m3, f3⟩
                have hne : ∀ X : Int, (X != X) = false := fun X => by simp
                simp only [newE, En.val]
                have XC := Lib.hid (Cells.new w3 #[.int .i64 a0, .int .i64 a1, .int .i64 (sq + 1), .int .i64 1, .int .i64 1, .int .i64 0, .string ⟨#[120]⟩] 30)
                have P4 := Lib.hid (p3.none_ ((Mod.refl _ w3).alloc (.cells #[.int .i64 a0, .int .i64 a1, .int .i64 (sq + 1), .int .i64 1, .int .i64 1, .int .i64 0, .string ⟨#[120]⟩] 30)))
                have M4 := Lib.hid (m3.alloc (.cells #[.int .i64 a0, .int .i64 a1, .int .i64 (sq + 1), .int .i64 1, .int .i64 1, .int .i64 0, .string ⟨#[120]⟩] 30))
                have hF3 := Lib.hid (show ∀ q, F3 q → w.heap.size ≤ q ∧ (F q ∨ wr.heap.size ≤ q) from fun q hq => by have := HBW.out.size; rcases f3 q hq with h | h; (exact ⟨HF.out q h, .inl h⟩); exact ⟨by omega, .inr h⟩)
                have hb3 := Lib.hid p3.lt
                have hs34 : w3.heap.size < (w3.alloc (.cells #[.int .i64 a0, .int .i64 a1, .int .i64 (sq + 1), .int .i64 1, .int .i64 1, .int .i64 0, .string ⟨#[120]⟩] 30)).heap.size := by simp
                have O4 := Lib.hid (HW.out.mod M4.out (fun q e => (HWF.out q e).2))
                have hwr3 : wr.heap.size ≤ w3.heap.size := m3.size
                have hone := Lib.hid (En.one (newE a0 a1 sq 1 1 ⟨#[120]⟩))
                have x0 := XC.out.1 0 _ rfl
                have x1 := XC.out.1 1 _ rfl
                have x2 := XC.out.1 2 _ rfl
                have x3 := XC.out.1 3 _ rfl
                have x4 := XC.out.1 4 _ rfl
                have x5 := XC.out.1 5 _ rfl
                have x6 := XC.out.1 6 _ rfl
                clear p3 m3 f3
                go_upto_region 20 with (fail)
                generalize w3.alloc (.cells #[.int .i64 a0, .int .i64 a1, .int .i64 (sq + 1), .int .i64 1, .int .i64 1, .int .i64 0, .string ⟨#[120]⟩] 30) = w4 at *
                generalize w3.heap.size = y at *
                go_wp2_with (at_builtin; refine wpList_append_Own _ rfl _ _ _ rfl 30 i0 _ 7 64 Try.underlying23 HI.out HZ0.out HZ1.out HZ2.out rfl (by decide) W l.length d _ rfl (O4.out.alloc _) ⟨w4.heap.size, 0, none⟩ 1 1 (newE a0 a1 sq 1 1 ⟨#[120]⟩).cells rfl rfl (World.news_of_block (heap_alloc_new _ _)) hone.out (by decide) (by unfold maxLen; omega) (by omega) ?_; intro B2 d2 w5 ho5 hg5 hb5)
                have m5 : Mod (fun q => blk W = some q) w4 w5 := ((Mod.refl _ w4).alloc _).grown hg5 (fun q e => .inl e)
                have P5 := Lib.hid (P4.out.mod m5 (fun q hq hF e => by have h1 := (hF3.out q hF).2; have h2 := HW.out.lt e; rcases h1 with h1 | h1; exact (HWF.out q e).2 h1; omega))
                have O5 := Lib.hid (show Own w5 7 B2 (l ++ [(newE a0 a1 sq 1 1 ⟨#[120]⟩)]).length d2 (ecells (l ++ [(newE a0 a1 sq 1 1 ⟨#[120]⟩)])) by rw [ecells_app, List.length_append]; simpa [ecells] using ho5)
                have W5 := Lib.hid (show ∀ q, blk B2 = some q → w.heap.size ≤ q ∧ ¬ F3 q from fun q e => by
                  rcases hb5 with h | ⟨r, h, hr⟩
                  · have h2 := h.symm.trans e
                    have h3 := HWF.out q h2
                    refine ⟨h3.1, fun hF => ?_⟩
                    have h4 := HW.out.lt h2
                    rcases (hF3.out q hF).2 with h5 | h5
                    · exact h3.2 h5
                    · omega
                  · have h2 := h.symm.trans e
                    injection h2 with h2
                    subst h2
                    simp at hr
                    have h6 := HBW.out.size
                    refine ⟨by omega, fun hF => ?_⟩
                    have := hb3.out _ hF
                    omega)
                have G5 := Lib.hid (show ∀ q, F3 q → w.heap.size ≤ q from fun q hq => (hF3.out q hq).1)
                have U5 := Lib.hid (HU.out.snoc (newE a0 a1 sq 1 1 ⟨#[120]⟩) rfl)
                have B5 := Lib.hid (Mod.below (Mod.below HBW.out M4.out (HF.out)) m5 (fun q e => (HWF.out q e).1))
                have hlen : (l ++ [(newE a0 a1 sq 1 1 ⟨#[120]⟩)]).length = l.length + 1 := by rw [List.length_append]; rfl
                clear ho5 hg5 hb5 m5 P4 M4 O4 x0 x1 x2 x3 x4 x5 x6
                have HL := Lib.hid (lenP_any g F3 a0 a1 (sq + 1) (l ++ [(newE a0 a1 sq 1 1 ⟨#[120]⟩)]) w5 P5.out)
                rw [hlen] at HL
                go_wp2_with fail
                with_reducible refine HL.out.mono ?_
                rintro e w9 ⟨rfl, rfl⟩
                rw [← HA1.out]
                go_wp2_with fail
                go_roundg (40 - (i + 1))
                case measure => omega
                case rel => exact ⟨i + 1, (sq + 1), (l ++ [(newE a0 a1 sq 1 1 ⟨#[120]⟩)]), F3, B2, d2, by omega, by omega, by omega, by omega, by rw [hlen]; omega, by go_num, rfl, by rw [hlen], P5, O5, W5, G5, U5, B5, by omega⟩
            · have hge : 4 ≤ l.length := by omega
              have HAdd := Lib.hid (addP_busy g F a0 a1 sq 1 1 ⟨#[120]⟩ l wr HP.out (by decide) (by omega) hok hge)
              have hl4i : (4 : Int) ≤ (l.length : Int) := by omega
              clear hok
              rcases ht4 with rfl | rfl
              all_goals
                go_wp2_with fail
                refine HAdd.out.mono ?_
                rintro e w3 ⟨F3, rfl, p3, m3, f3⟩
                simp only [zE, En.val]
                have P4 := Lib.hid (p3.none_ ((Mod.refl _ w3).alloc (.cells #[.int .i64 0, .int .i64 0, .int .i64 0, .int .i64 0, .int .i64 0, .int .i64 0, .string ⟨#[]⟩] 30)))
                have m4 := m3.alloc (.cells #[.int .i64 0, .int .i64 0, .int .i64 0, .int .i64 0, .int .i64 0, .int .i64 0, .string ⟨#[]⟩] 30)
                have O4 := Lib.hid (HW.out.mod m4 (fun q e => (HWF.out q e).2))
                have W4 := Lib.hid (show ∀ q, blk W = some q → w.heap.size ≤ q ∧ ¬ F3 q from fun q e => ⟨(HWF.out q e).1, fun hF => by have h4 := HW.out.lt e; rcases f3 q hF with h | h; exact (HWF.out q e).2 h; omega⟩)
                have G4 := Lib.hid (show ∀ q, F3 q → w.heap.size ≤ q from fun q hq => by have := HBW.out.size; rcases f3 q hq with h | h; exact HF.out q h; omega)
                have B4 := Lib.hid (Mod.below HBW.out m4 (HF.out))
                clear p3 m3 f3 m4
                go_upto_region 20 with (fail)
                generalize w3.alloc (.cells #[.int .i64 0, .int .i64 0, .int .i64 0, .int .i64 0, .int .i64 0, .int .i64 0, .string ⟨#[]⟩] 30) = w4 at *
                have HL := Lib.hid (lenP_any g F3 a0 a1 sq l w4 P4.out)
                go_wp2_with fail
                with_reducible refine HL.out.mono ?_
                rintro e w9 ⟨rfl, rfl⟩
                rw [← HA1.out]
                go_wp2_with fail
                go_roundg (40 - (i + 1))
                case measure => omega
                case rel => exact ⟨i + 1, sq, l, F3, W, d, by omega, by omega, by omega, by omega, by omega, by go_num, rfl, rfl, P4, O4, W4, G4, HU, B4, by omega⟩
          · have hok : okB (newE a0 a1 sq 1 7 ⟨#[120]⟩) = false := by
              unfold okB newE
              simp
            have HAdd := Lib.hid (addP_form g F a0 a1 sq 1 7 ⟨#[120]⟩ l wr HP.out (by decide) (by omega) hok)
            clear hok
            go_wp2_with fail
            refine HAdd.out.mono ?_
            rintro e w3 ⟨F3, rfl, p3, m3, f3⟩
            simp only [zE, En.val]
            have P4 := Lib.hid (p3.none_ ((Mod.refl _ w3).alloc (.cells #[.int .i64 0, .int .i64 0, .int .i64 0, .int .i64 0, .int .i64 0, .int .i64 0, .string ⟨#[]⟩] 30)))
            have m4 := m3.alloc (.cells #[.int .i64 0, .int .i64 0, .int .i64 0, .int .i64 0, .int .i64 0, .int .i64 0, .string ⟨#[]⟩] 30)
            have O4 := Lib.hid (HW.out.mod m4 (fun q e => (HWF.out q e).2))
            have W4 := Lib.hid (show ∀ q, blk W = some q → w.heap.size ≤ q ∧ ¬ F3 q from fun q e => ⟨(HWF.out q e).1, fun hF => by have h4 := HW.out.lt e; rcases f3 q hF with h | h; exact (HWF.out q e).2 h; omega⟩)
            have G4 := Lib.hid (show ∀ q, F3 q → w.heap.size ≤ q from fun q hq => by have := HBW.out.size; rcases f3 q hq with h | h; exact HF.out q h; omega)
            have B4 := Lib.hid (Mod.below HBW.out m4 (HF.out))
            clear p3 m3 f3 m4
            go_upto_region 29 with (fail)
            generalize w3.alloc (.cells #[.int .i64 0, .int .i64 0, .int .i64 0, .int .i64 0, .int .i64 0, .int .i64 0, .string ⟨#[]⟩] 30) = w4 at *
            have HL := Lib.hid (lenP_any g F3 a0 a1 sq l w4 P4.out)
            go_wp2_with fail
            with_reducible refine HL.out.mono ?_
            rintro e w9 ⟨rfl, rfl⟩
            rw [← HA1.out]
            go_wp2_with fail
            go_roundg (40 - (i + 1))
            case measure => omega
            case rel => exact ⟨i + 1, sq, l, F3, W, d, by omega, by omega, by omega, by omega, by omega, by go_num, rfl, rfl, P4, O4, W4, G4, HU, B4, by omega⟩
          · by_cases hp : 0 < l.length
            · obtain ⟨gw, ow, hWf, hgw2⟩ := HW.out.form hp
              have hlen1 : (l.take 1).length = 1 := by rw [List.length_take]; omega
              have hsl := Sl.takeE (Sl.of_own HW.out) (k := 1) (by omega)
              have hlend : (l.drop 1).length = l.length - 1 := by rw [List.length_drop]
              have hD1 := doneP_any g F a0 a1 sq l W (l.take 1) d wr HP.out hsl (fun _ q e => (HWF.out q e).2) (by omega)
              rw [hlen1, HU.out.done hp, hlend, show (l.length : Int) - ((l.length - 1 : Nat) : Int) = 1 by omega] at hD1
              rw [hWf] at hD1
              have HD1 := Lib.hid hD1
              have hD2 := fun (w3 : World) (p3 : IsP w3 g F a0 a1 sq (l.drop 1)) (h : Sl w3 7 W (l.take 1).length (ecells (l.take 1))) => doneP_any g F a0 a1 sq (l.drop 1) W (l.take 1) d w3 p3 h (fun _ q e => (HWF.out q e).2) (by omega)
              rw [hlen1, HU.out.again hp, Int.sub_self] at hD2
              rw [hWf] at hD2
              have HD2 := Lib.hid hD2
              have HSL := Lib.hid (show Sl wr 7 (some ⟨gw, ow, none⟩) 1 (ecells (l.take 1)) by rw [← hWf]; have h := hsl; rw [hlen1] at h; exact h)
              have HWf := Lib.hid hWf
              have n1 : (1 : Int) ≤ (d : Int) := by omega
              have n2 : (1 : Int) ≤ (l.length : Int) := by omega
              have n3 : (0 : Int) < (l.length : Int) := by omega
              have HC := Lib.hid (HW.out.cut (k := 1) (by omega))
              have hbc := Lib.hid (blk_cut W d 1 7)
              clear hD1 hD2 hsl
              rw [hWf]
              clear hWf
              by_cases hd1 : d = 1
              · subst hd1
                go_wp2_with fail
                with_reducible refine HD1.out.mono ?_
                rintro e w3 ⟨rfl, p3, m3⟩
                have P3 := Lib.hid p3
                have M3 := Lib.hid m3
                have HD3 := Lib.hid (HD2.out w3 p3 (HSL.out.mod m3 (fun q e => (HWF.out q (by rw [HWf.out]; exact e)).2)))
                clear p3 m3 HD1 HD2
                go_wp2_with fail
                with_reducible refine HD3.out.mono ?_
                rintro e w4 ⟨rfl, p4, m4⟩
                have P4 := Lib.hid p4
                have O4 := Lib.hid (show Own w4 7 (some ⟨gw, ow, none⟩) (l.drop 1).length (1 - 1) (ecells (l.drop 1)) by
                  have h := (HC.out.mod M3.out (fun q e => (HWF.out q (by rw [← hbc.out]; exact e)).2)).mod m4 (fun q e => (HWF.out q (by rw [← hbc.out]; exact e)).2)
                  rw [if_pos trivial, HWf.out] at h
                  rw [hlend]
                  rw [show ecells (l.drop 1) = (ecells l).drop (1 * 7) from (cl_drop En.cells_len l 1).symm]
                  exact h)
                have W4 := Lib.hid (show ∀ q, blk (some ⟨gw, ow, none⟩) = some q → w.heap.size ≤ q ∧ ¬ F q from fun q e => HWF.out q (by rw [HWf.out]; exact e))
                have B4 := Lib.hid (Mod.below (Mod.below HBW.out M3.out (HF.out)) m4 (HF.out))
                have U4 := Lib.hid (HU.out.tail)
                clear p4 m4 HD3 HC
                have HL := Lib.hid (lenP_any g F a0 a1 sq (l.drop 1) w4 P4.out)
                rw [hlend] at HL
                have hneq : ∀ X : Int, (X != X) = false := fun X => by simp
                go_wp2_with fail
                with_reducible refine HL.out.mono ?_
                rintro e w9 ⟨rfl, rfl⟩
                rw [← HA1.out]
                go_wp2_with fail
                go_roundg (40 - (i + 1))
                case measure => omega
                case rel => exact ⟨i + 1, sq, (l.drop 1), F, (some ⟨gw, ow, none⟩), (1 - 1), by omega, by omega, by omega, by omega, by rw [hlend]; omega, by go_num, rfl, by rw [hlend, show l.length - 1 = 0 by omega], P4, O4, W4, HF, U4, B4, by omega⟩
              · go_wp2_with fail
                with_reducible refine HD1.out.mono ?_
                rintro e w3 ⟨rfl, p3, m3⟩
                have P3 := Lib.hid p3
                have M3 := Lib.hid m3
                have HD3 := Lib.hid (HD2.out w3 p3 (HSL.out.mod m3 (fun q e => (HWF.out q (by rw [HWf.out]; exact e)).2)))
                clear p3 m3 HD1 HD2
                go_wp2_with fail
                with_reducible refine HD3.out.mono ?_
                rintro e w4 ⟨rfl, p4, m4⟩
                have P4 := Lib.hid p4
                have O4 := Lib.hid (show Own w4 7 (some ⟨gw, ow + 7, none⟩) (l.drop 1).length (d - 1) (ecells (l.drop 1)) by
                  have h := (HC.out.mod M3.out (fun q e => (HWF.out q (by rw [← hbc.out]; exact e)).2)).mod m4 (fun q e => (HWF.out q (by rw [← hbc.out]; exact e)).2)
                  rw [if_neg hd1, HWf.out, show (Option.some (⟨gw, ow, none⟩ : Addr)).map (·.add (1 * 7)) = some ⟨gw, ow + 7, none⟩ from congrArg some (Addr.add_lit ..)] at h
                  rw [hlend]
                  rw [show ecells (l.drop 1) = (ecells l).drop (1 * 7) from (cl_drop En.cells_len l 1).symm]
                  exact h)
                have W4 := Lib.hid (show ∀ q, blk (some ⟨gw, ow + 7, none⟩) = some q → w.heap.size ≤ q ∧ ¬ F q from fun q e => HWF.out q (by rw [HWf.out]; exact e))
                have B4 := Lib.hid (Mod.below (Mod.below HBW.out M3.out (HF.out)) m4 (HF.out))
                have U4 := Lib.hid (HU.out.tail)
                clear p4 m4 HD3 HC
                have HL := Lib.hid (lenP_any g F a0 a1 sq (l.drop 1) w4 P4.out)
                rw [hlend] at HL
                have hneq : ∀ X : Int, (X != X) = false := fun X => by simp
                go_wp2_with fail
                with_reducible refine HL.out.mono ?_
                rintro e w9 ⟨rfl, rfl⟩
                rw [← HA1.out]
                go_wp2_with fail
                go_roundg (40 - (i + 1))
                case measure => omega
                case rel => exact ⟨i + 1, sq, (l.drop 1), F, (some ⟨gw, ow + 7, none⟩), (d - 1), by omega, by omega, by omega, by omega, by rw [hlend]; omega, by go_num, rfl, by rw [hlend], P4, O4, W4, HF, U4, B4, by omega⟩
            · have hl0 : l = [] := List.eq_nil_of_length_eq_zero (by omega)
              subst hl0
              have HL := Lib.hid (lenP_any g F a0 a1 sq [] wr HP.out)
              simp only [List.length_nil] at *
              go_wp2_with fail
              with_reducible refine HL.out.mono ?_
              rintro e w9 ⟨rfl, rfl⟩
              rw [← HA1.out]
              go_wp2_with fail
              go_roundg (40 - (i + 1))
              case measure => omega
              case rel => exact ⟨i + 1, sq, [], F, W, d, by omega, by omega, by omega, by omega, by simp, by go_num, rfl, rfl, HP, HW, HWF, HF, HU, HBW, by omega⟩
      · have hend : i < len2 ∧ 40 ≤ i ∨ len2 ≤ i := by omega
        clear hin
        rcases hend with ⟨h1, h2⟩ | h1
        all_goals
          go_wp2_with fail
          go_ret
          exact ⟨rfl, HBW.out⟩
  · have hend : a0 < 1 ∨ (1 ≤ a0 ∧ 7 < a0) ∨ (1 ≤ a0 ∧ a0 ≤ 7 ∧ a1 < 1) ∨ (1 ≤ a0 ∧ a0 ≤ 7 ∧ 1 ≤ a1 ∧ 1099511627776 < a1) := by omega
    clear hk
    rcases hend with h1 | ⟨h1, h2⟩ | ⟨h1, h2, h3⟩ | ⟨h1, h2, h3, h4⟩
    all_goals
      go_wp2_with fail
      go_ret
      exact ⟨rfl, HB.out⟩
/-! ### the row's step -/
theorem own : ownKnob Try.prog.godebug = none := by kernel_rfl
theorem laidOut : laidOutB Try.prog = true := by kernel_rfl
set_option maxRecDepth 100000 in
theorem lifted (os : Os) (started : os.Started) (H : Type) (enc : TypeId × Value → H) :
    ReturnsInHanded {} Try.checked os 9 .any (Rows.pendingSeqSpec.pre6 enc Try.prog Try.f9 Rows.pendingSeqRow.domain false) (Rows.pendingSeqSpec.post enc Try.prog Try.f9 false true false false) := by
  refine returnsInHanded_of_change (C := Try.checked) own started (by kernel_rfl) Try.func9
    (ChangeSpec.witness6 (enc := enc) (C := Try.checked) false ⟨#[], #[.int .i64 0, .int .i64 0, .slice none 0 0], []⟩ 8 (by kernel_rfl) (by kernel_rfl) (by kernel_rfl) (by kernel_rfl)) ?_
  intro W base args ds gs before hval0 hW hcnd _
  have hval : ∀ (j : Nat) t v, Try.f9.params[j]? = some t → args[j]? = some v → Value.okWide Try.prog W .any base t v := hval0
  have hW' := hW
  obtain ⟨p, q, hA0, hV, rfl, hfz, hnd⟩ := hW
  have hA : DataW.TrodAll enc Try.prog W 0 (fun _ => true) true Try.f9.params.toList args.toList ds p := hA0
  rw [Try.params9] at hA hval
  obtain ⟨v0, vs0, d0, ds0, p0, q0, hargs, rfl, rfl, h0, r0⟩ := trodAll_cons hA
  obtain ⟨v1, vs1, d1, ds1, p1, q1, rfl, rfl, rfl, h1, r1⟩ := trodAll_cons r0
  obtain ⟨v2, vs2, d2, ds2, p2, q2, rfl, rfl, rfl, h2, r2⟩ := trodAll_cons r1
  obtain ⟨rfl, rfl, rfl⟩ := trodAll_nil r2
  obtain rfl : args = #[v0, v1, v2] := by cases args; simp_all
  obtain ⟨rfl, rfl⟩ := trodVars_none hV
  have k0 := h0
  have lt0 : ∀ x ∈ p0, x.block < W.heap.size := by obtain ⟨m, hm⟩ := k0; exact DataW.trod_lt m _ _ _ hm
  have k1 := h1
  have lt1 : ∀ x ∈ p1, x.block < W.heap.size := by obtain ⟨m, hm⟩ := k1; exact DataW.trod_lt m _ _ _ hm
  have k2 := h2
  have lt2 : ∀ x ∈ p2, x.block < W.heap.size := by obtain ⟨m, hm⟩ := k2; exact DataW.trod_lt m _ _ _ hm
  obtain ⟨a0, rfl, rfl, rfl, w0⟩ := open_int Try.underlying3 (hval 0 3 v0 rfl rfl) h0
  obtain ⟨a1, rfl, rfl, rfl, w1⟩ := open_int Try.underlying2 (hval 1 2 v1 rfl rfl) h1
  obtain ⟨a2, len2, cap2, rfl⟩ := okWide_slice Try.underlying48 (hval 2 48 v2 rfl rfl)
  obtain ⟨z2, w2⟩ := IntsAt.open_ Try.underlying48 Try.underlying3 (by kernel_rfl) h2
  clear hA0 hval0
  refine (walk a0 a1 a2 len2 cap2 z2 W w0 w1 w2).mono fun e W' ⟨he, bel⟩ => ?_
  subst he
  exact ⟨_, rfl, _, _, _, [], _, [], hW', trodAll_mk1 (shut_bool Try.underlying4 _), (trodAll_cons_mk (Below.trod laidOut (by kernel_rfl) (of_decide_eq_true (by kernel_rfl)) k0 bel lt0) (trodAll_cons_mk (Below.trod laidOut (by kernel_rfl) (of_decide_eq_true (by kernel_rfl)) k1 bel lt1) (trodAll_cons_mk (Below.trod laidOut (by kernel_rfl) (of_decide_eq_true (by kernel_rfl)) k2 bel lt2) trodAll_mk0))), rfl, bel.frame _, fun h => by cases h⟩

theorem over : Rows.pendingSeqRow.holds Try.pinned (OpenSpec.ofChange Rows.pendingSeqSpec) :=
  OpenClaim.holds_of_wide 9 Try.f9 rfl rfl rfl rfl rfl rfl rfl ⟨rfl, rfl, rfl, rfl, rfl⟩ rfl rfl rfl rfl rfl (by kernel_rfl) Try.func9 (by kernel_rfl)
    (of_decide_eq_true (by kernel_rfl)) (by unfold Func.isWrapper; first | (rw [if_pos (by decide +kernel)]; kernel_rfl) | (rw [if_neg (by decide +kernel)]; exact ⟨rfl, rfl⟩))
    (fun os started H enc _ => lifted os started H enc)

theorem proved : Rows.PendingSeqSaid := over
#print axioms proved
end Go.Proofs.Ytbladkopbkkamaa.pendingSeq
