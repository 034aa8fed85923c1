/- The reference's Log; the law's begun and kinds. -/
import Derived.Test.YtcjnmiopklkifaaReadyA
import Derived.Test.YtcjnmiopklkifaaReadyW
namespace Go.Proofs.Ytcjnmiopklkifaa
open Go.RowKit
attribute [local go_sem ↓] Go.wp_at_zero Go.wp_at_succ
set_option linter.unusedVariables false
set_option linter.unusedSimpArgs false

theorem add_no (A : Option Addr) (l : List En) (c : Nat) (e : En) (w : World) (hl : Sl w 7 A l.length (ecells l)) (hd : e.da.size ≤ maxLen) (hlen : l.length ≤ 50) (h : addB l e = false) :
    Calls Try.prog 25 #[.slice A l.length c, e.val] w (AddNo w A l.length c) := by
  cases h1 : okB e
  · exact add_1 A l c e w hl hd hlen h1
  · cases h2 : l.any (fun x => same x e)
    · rcases Nat.eq_zero_or_pos l.length with h3 | h3
      · unfold addB at h
        rw [h1, h2, lastOk_nil h3] at h
        simp at h
      · unfold addB at h
        rw [h1, h2, lastOk_pos h3] at h
        simp at h
        exact add_3 A l c e w hl hd hlen h1 h2 h3 (by omega)
    · exact add_2 A l c e w hl hd hlen h1 h2
theorem add_yes (A : Option Addr) (l : List En) (c : Nat) (e : En) (w : World) (hl : Sl w 7 A l.length (ecells l)) (hd : e.da.size ≤ maxLen) (hlen : l.length ≤ 50) (h : addB l e = true) :
    Calls Try.prog 25 #[.slice A l.length c, e.val] w (AddYes w (l ++ [e])) := by
  unfold addB at h
  rw [Bool.and_eq_true, Bool.and_eq_true] at h
  obtain ⟨⟨h1, h2⟩, h3⟩ := h
  have h2' : (l.any fun x => same x e) = false := by simpa using h2
  rcases Nat.eq_zero_or_pos l.length with h4 | h4
  · exact add_4 A l c e w hl hd hlen h1 h2' h4
  · rw [lastOk_pos h4, decide_eq_true_eq] at h3
    exact add_5 A l c e w hl hd hlen h1 h2' h4 h3

def addL (l : List En) (e : En) : List En := if addB l e = true then l ++ [e] else l
def logL (es : List En) : List En := es.foldl addL []
theorem logL_next {es : List En} {k : Nat} (hk : k < es.length) : logL (es.take (k + 1)) = addL (logL (es.take k)) es[k] := by
  unfold logL
  rw [List.take_succ_eq_append_getElem hk, List.foldl_append]
  rfl
theorem addL_len (l : List En) (e : En) : (addL l e).length ≤ l.length + 1 := by unfold addL; split <;> simp
theorem foldl_len (es l : List En) : (es.foldl addL l).length ≤ l.length + es.length := by
  induction es generalizing l with
  | nil => simp
  | cons e es ih =>
    have h1 := ih (addL l e)
    have h2 := addL_len l e
    simp only [List.foldl_cons, List.length_cons]
    omega
theorem logL_len (es : List En) : (logL es).length ≤ es.length := by have := foldl_len es []; simpa [logL] using this
/-- what holds of a log -/
def LogOk (l : List En) : Prop := (∀ e ∈ l, okB e = true) ∧ ∀ i j (hi : i < l.length) (hj : j < l.length), i < j → same l[i] l[j] = false
theorem addL_ok {l : List En} {e : En} (h : LogOk l) : LogOk (addL l e) := by
  unfold addL
  split
  · rename_i hb
    unfold addB at hb
    rw [Bool.and_eq_true, Bool.and_eq_true] at hb
    obtain ⟨⟨h1, h2⟩, h3⟩ := hb
    have h2' : (l.any fun x => same x e) = false := by simpa using h2
    refine ⟨fun x hx => ?_, fun i j hi hj hij => ?_⟩
    · rcases List.mem_append.1 hx with h4 | h4
      · exact h.1 x h4
      · rw [List.mem_singleton.1 h4]; exact h1
    · rw [List.length_append] at hj
      simp at hj
      have hi' : i < l.length := by omega
      rw [List.getElem_append_left hi']
      by_cases hjl : j < l.length
      · rw [List.getElem_append_left hjl]
        exact h.2 i j hi' hjl hij
      · have : j = l.length := by omega
        subst this
        simp
        rw [List.any_eq_false] at h2'
        simpa using h2' _ (List.getElem_mem hi')
  · exact h
theorem logL_ok (es : List En) : LogOk (logL es) := by
  have : ∀ (es l : List En), LogOk l → LogOk (es.foldl addL l) := by
    intro es
    induction es with
    | nil => intro l h; exact h
    | cons e es ih => intro l h; exact ih _ (addL_ok h)
  exact this es [] ⟨fun e h => (by cases h), fun i j hi => absurd hi (by simp)⟩

set_option maxHeartbeats 3200000 in
theorem log_any (A : Option Addr) (es : List En) (c : Nat) (w : World) (hl : Sl w 7 A es.length (ecells es)) (hd : ∀ e ∈ es, e.da.size ≤ maxLen) (hn : es.length ≤ 50) :
    Calls Try.prog 13 #[.slice A es.length c] w (NewE w (logL es)) := by
  have HL := Lib.hid hl
  have HD := Lib.hid hd
  clear hl hd
  go_enter Try.func13, Try.ntmps13
  go_wp2_with fail
  go_loopg [3, 4] es.length (fun q v i wr => ∃ (k : Nat) (B : Option Addr) (d : Nat), k ≤ es.length ∧ i = .int .i64 k ∧ v = .slice B (logL (es.take k)).length d ∧ Hid (Own wr 7 B (logL (es.take k)).length d (ecells (logL (es.take k)))) ∧ Hid (Mod (fun _ => False) w wr) ∧ Hid (∀ g, blk B = some g → w.heap.size ≤ g) ∧ q + k = es.length)
  case atStart => exact ⟨0, none, 0, by omega, rfl, rfl, Lib.hid (Own.nil _ _), Lib.hid (Mod.refl _ _), Lib.hid (by simp [blk]), by omega⟩
  case round =>
    obtain ⟨k, B, d, hk, rfl, rfl, HO, HM, HB, hq⟩ := hrel
    by_cases hlt : k < es.length
    · obtain ⟨g, o, rfl, hg, q0, q1, q2, q3, q4, q5, q6⟩ := (HL.out.none_ HM.out).ent hlt
      have HN := Lib.hid (logL_next hlt)
      have hsz := HD.out es[k] (List.getElem_mem hlt)
      have hle : (logL (es.take k)).length ≤ 50 := by
        have := logL_len (es.take k)
        rw [List.length_take] at this
        omega
      have i0 : (0 : Int) ≤ (k : Int) := by omega
      have i1 : (k : Int) < (es.length : Int) := by omega
      cases hb : addB (logL (es.take k)) es[k]
      · have hc := add_no B (logL (es.take k)) d es[k] wr (Sl.of_own HO.out) hsz hle hb
        have HN2 := Lib.hid (show logL (es.take (k + 1)) = logL (es.take k) by rw [HN.out]; unfold addL; rw [hb]; rfl)
        unfold En.val at hc
        have HC := Lib.hid hc
        clear hc hb hsz HN
        generalize es[k] = x at *
        go_wp2_with fail
        with_reducible refine HC.out.mono ?_
        rintro e w1 ⟨rfl, m1⟩
        have M1 := Lib.hid m1
        clear m1
        go_wp2_with fail
        go_roundg (es.length - (k + 1))
        case measure => omega
        case rel => exact ⟨k + 1, B, d, by omega, by go_num, by rw [HN2.out], by rw [HN2.out]; exact Lib.hid (HO.out.mod M1.out (by simp)), Lib.hid (HM.out.trans M1.out (by simp)), HB, by omega⟩
      · have hc := add_yes B (logL (es.take k)) d es[k] wr (Sl.of_own HO.out) hsz hle hb
        have HN2 := Lib.hid (show logL (es.take (k + 1)) = logL (es.take k) ++ [es[k]] by rw [HN.out]; unfold addL; rw [hb]; rfl)
        unfold En.val at hc
        have HC := Lib.hid hc
        clear hc hb hsz HN
        generalize es[k] = x at *
        go_wp2_with fail
        with_reducible refine HC.out.mono ?_
        rintro e w1 ⟨A2, c2, rfl, o1, m1, b1⟩
        have M1 := Lib.hid m1
        have O1 := Lib.hid o1
        have B1 := Lib.hid b1
        clear m1 o1 b1
        go_wp2_with fail
        go_roundg (es.length - (k + 1))
        case measure => omega
        case rel =>
          refine ⟨k + 1, A2, c2, by omega, by go_num, by rw [HN2.out]; first | rfl | simp, ?_, Lib.hid (HM.out.trans M1.out (by simp)), Lib.hid fun g e => ?_, by omega⟩
          · rw [HN2.out]; exact Lib.hid O1.out
          · have h1 := B1.out g e
            have h2 := HM.out.size
            omega
    · obtain rfl : k = es.length := by omega
      go_wp2_with fail
      go_ret
      have e : es.take es.length = es := List.take_length
      have h2 := HO.out
      rw [e] at h2 ⊢
      exact ⟨B, d, rfl, h2, HM.out, HB.out⟩
end Go.Proofs.Ytcjnmiopklkifaa
