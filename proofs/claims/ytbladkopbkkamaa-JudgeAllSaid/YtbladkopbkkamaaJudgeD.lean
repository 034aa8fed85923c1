/- The walks of the package judge, further: Agree; the law's Told; begun. -/
import Derived.Test.YtbladkopbkkamaaJudgeC
namespace Go.Proofs.Ytbladkopbkkamaa
open Go.RowKit
attribute [local go_sem ↓] Go.wp_at_zero Go.wp_at_succ
set_option linter.unusedVariables false
set_option linter.unusedSimpArgs false

/-- how far both stand fast -/
def both (m n : Int) (a b : Nat) : Nat := min (min m.toNat a) (min n.toNat b)

set_option maxHeartbeats 3200000 in
theorem agree_any (A : Option Addr) (l : List En) (c : Nat) (m : Int) (B : Option Addr) (k : List En) (d : Nat) (n : Int) (w : World) (hl : Sl w 7 A l.length (ecells l)) (hk : Sl w 7 B k.length (ecells k)) (hc : l.length ≤ c) (hc2 : c ≤ maxLen) (hd : k.length ≤ d) (hd2 : d ≤ maxLen) :
    Calls Try.prog 20 #[.slice A l.length c, .int .i64 m, .slice B k.length d, .int .i64 n] w (Only w (.bool (eqAll (l.take (both m n l.length k.length)) (k.take (both m n l.length k.length))))) := by
  unfold maxLen at hc2 hd2
  have HL := Lib.hid hl
  have HK := Lib.hid hk
  clear hl hk
  go_enter Try.func20, Try.ntmps20
  go_upto_region 1 with (fail)
  go_cut [9] (fun s9 wx => s9 = .int .i64 ((both m n l.length k.length : Nat) : Int) ∧ w = wx)
  case first =>
    go_wp2_with fail
    all_goals
      go_meet
      refine ⟨?_, rfl⟩
      show Value.int .i64 _ = Value.int .i64 _
      congr 1
      simp only [both]
      omega
  case rest =>
    obtain ⟨rfl, rfl⟩ := hcut
    have h1 : both m n l.length k.length ≤ l.length := by unfold both; omega
    have h2 : both m n l.length k.length ≤ k.length := by unfold both; omega
    generalize both m n l.length k.length = q at *
    have e1 : (l.take q).length = q := by simp; omega
    have e2 : (k.take q).length = q := by simp; omega
    have hq := fun (W : World) (hW : Mod (fun _ => False) w W) => equalFunc_any A B (l.take q) (k.take q) c d W ((HL.out.none_ hW).takeE h1) ((HK.out.none_ hW).takeE h2)
    rw [e1, e2] at hq
    generalize eqAll (l.take q) (k.take q) = v at *
    have HQ := Lib.hid hq
    clear hq e1 e2
    have i0 : (0 : Int) ≤ (q : Int) := by omega
    have i1 : (q : Int) ≤ (c : Int) := by omega
    have i2 : (q : Int) ≤ (d : Int) := by omega
    go_wp2_with fail
    go_region_with (go_at_call 38; refine (HQ.out _ ((Mod.refl _ _).drew)).mono ?_; rintro e w1 ⟨rfl, m1⟩)
    all_goals
      go_wp2_with fail
      go_ret
      exact ⟨rfl, undrew m1⟩

/-! ### the law's Told -/
def To.cut (t : To) : To := ⟨t.at_, t.e.cut⟩
/-- a new slice of what was told -/
def NewT (w : World) (l : List To) (e : Ending) (w' : World) : Prop :=
  ∃ A c, e = .returned (.slice A l.length c) ∧ Own w' 8 A l.length c (tcells l) ∧ Mod (fun _ => False) w w' ∧ ∀ g, blk A = some g → w.heap.size ≤ g

set_option maxHeartbeats 3200000 in
theorem told_any (A : Option Addr) (l : List To) (c : Nat) (w : World) (hl : Sl w 8 A l.length (tcells l)) (hd : ∀ t ∈ l, t.e.da.size ≤ maxLen) :
    Calls Try.prog 11 #[.slice A l.length c] w (NewT w ((l.take 15).map To.cut)) := by
  obtain ⟨i0, hi0, hz0, hz1, hz2⟩ := info_parts info_to
  have hmx := hl.2.1
  unfold maxLen at hmx
  have HL := Lib.hid hl
  have HD := Lib.hid hd
  have HI := Lib.hid hi0
  have HZ0 := Lib.hid hz0
  have HZ1 := Lib.hid hz1
  have HZ2 := Lib.hid hz2
  clear hl hd hi0 hz0 hz1 hz2
  go_enter Try.func11, Try.ntmps11
  go_wp2_with fail
  go_loopg [3, 4] 15 (fun q v i wr => ∃ (k : Nat) (B : Option Addr) (d : Nat), k ≤ l.length ∧ k ≤ 15 ∧ i = .int .i64 k ∧ v = .slice B k d ∧ Hid (Own wr 8 B k d (tcells ((l.take k).map To.cut))) ∧ Hid (Mod (fun _ => False) w wr) ∧ Hid (∀ g, blk B = some g → w.heap.size ≤ g) ∧ q + k = 15)
  case atStart => exact ⟨0, none, 0, by omega, by omega, rfl, rfl, Lib.hid (Own.nil _ _), Lib.hid (Mod.refl _ _), Lib.hid (by simp [blk]), by omega⟩
  case round =>
    obtain ⟨k, B, d, hk, hkn, rfl, rfl, HO, HM, HB, hq⟩ := hrel
    by_cases hin : k < l.length ∧ k < 15
    · obtain ⟨h1, h2⟩ := hin
      obtain ⟨g, o, rfl, hg, q0, q1, q2, q3, q4, q5, q6, q7⟩ := (HL.out.none_ HM.out).to h1
      have hsz := HD.out l[k] (List.getElem_mem h1)
      have hct := fun W => cutE_any l[k].e W hsz
      have hst := Lib.hid (show tcells ((l.take k).map To.cut) ++ l[k].cut.cells = tcells ((l.take (k + 1)).map To.cut) by
        rw [List.take_succ_eq_append_getElem h1, List.map_append, tcells_app]; simp [tcells])
      have hone := Lib.hid (To.one l[k].cut)
      have hcc : l[k].cut = ⟨l[k].at_, l[k].e.cut⟩ := rfl
      rw [hcc] at hst hone
      unfold En.val at hct
      unfold To.cells En.cells at hst hone
      clear hsz hcc
      generalize l[k].e.cut = x at *
      generalize l[k] = y at *
      have HCT := Lib.hid hct
      clear hct
      have j0 : (0 : Int) ≤ (k : Int) := by omega
      have j1 : (k : Int) < (l.length : Int) := by omega
      obtain ⟨y0, y1, y2, y3, y4, y5, y6, y7⟩ := y
      obtain ⟨x1, x2, x3, x4, x5, x6, x7⟩ := x
      simp only [] at *
      have hBx := HB.out
      have hgw : blk B ≠ some g := fun e => by
        have h5 := hBx g e
        obtain ⟨g', o', e', hg', _⟩ := HL.out.to h1
        injection e' with e'
        injection e' with e1 e2
        omega
      have HG := Lib.hid hgw
      clear hBx hgw
      go_wp2_with fail
      go_region_law (first
        | (refine step_append_Own _ (by rfl) _ _ _ (by rfl) 32 i0 _ 8 72 Try.underlying22 HI.out HZ0.out HZ1.out HZ2.out (by rfl) (by decide) B k d _ (by rfl) (by exact HO1.out.alloc _) ⟨w1.heap.size, 0, none⟩ 1 1 _ (by rfl) (by rfl) (by exact World.news_of_block (heap_alloc_new _ _)) hone.out (by decide) (by unfold maxLen; omega) (by omega) ?_; intro B2 d2 w2 ho2 hg2 hb2)
        | (go_simp; go_at_call 31; refine (HCT.out _).mono ?_; rintro e w1 ⟨rfl, m1⟩; have z0 : w1.cell? ⟨g, o + k * 8, none⟩ = some (.int .i64 y0) := (undrew m1).cell q0 (by simp); have HM1 := Lib.hid (HM.out.trans (undrew m1) (by simp)); have HO1 := Lib.hid (HO.out.mod (undrew m1) (by simp)); clear m1))
      all_goals
        have ho3 := Lib.hid (show Own w2 8 B2 (k + 1) d2 _ by have h := ho2; rw [hst.out] at h; exact h)
        have hm3 := Lib.hid ((HM1.out.alloc _).grown hg2 fun g e => .inr (HB.out g e))
        have hb3 := Lib.hid (show ∀ g, blk B2 = some g → w.heap.size ≤ g by
          intro g e
          rcases hb2 with h | ⟨q, h, hq⟩
          · exact HB.out g (h.symm.trans e)
          · have := h.symm.trans e; injection this with this; subst this; have h5 := HM1.out.size; simp at hq; omega)
        clear ho2 hg2 hb2
        go_wp2_with fail
        go_roundg (15 - (k + 1))
        case measure => omega
        case rel => exact ⟨k + 1, B2, d2, by omega, by omega, by go_num, rfl, ho3, hm3, hb3, by omega⟩
    · have hout : (k < l.length ∧ 15 ≤ k) ∨ l.length ≤ k := by omega
      clear hin
      have hlen := Lib.hid (show l.take 15 = l.take k ∧ ((l.take 15).map To.cut).length = k by
        rcases hout with ⟨h1, h2⟩ | h1
        · obtain rfl : k = 15 := by omega
          exact ⟨rfl, by simp; omega⟩
        · rw [List.take_of_length_le (l := l) (i := k) (by omega), List.take_of_length_le (l := l) (i := 15) (by omega)]; exact ⟨rfl, by simp; omega⟩)
      rcases hout with ⟨h1, h2⟩ | h1
      all_goals
        go_wp2_with fail
        go_ret
        refine ⟨B, d, ?_, ?_, HM.out, HB.out⟩
        · rw [hlen.out.2]; rfl
        · rw [hlen.out.2, hlen.out.1]; exact HO.out
end Go.Proofs.Ytbladkopbkkamaa
