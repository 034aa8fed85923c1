/- The program's Go. -/
import Derived.Test.YtcjnmiopklkifaaReadyG
namespace Go.Proofs.Ytcjnmiopklkifaa
open Go.RowKit
attribute [local go_sem ↓] Go.wp_at_zero Go.wp_at_succ
set_option linter.unusedVariables false
set_option linter.unusedSimpArgs false

set_option maxRecDepth 100000 in
set_option maxHeartbeats 6400000 in
theorem go_any (g : Nat) (F : Nat → Prop) (T : List To) (L : Option Addr) (l : List En) (cl : Nat) (c now : Int) (w : World) (hq : IsQ w g F T) (hl : Sl w 7 L l.length (ecells l)) (hLF : ∀ k, blk L = some k → ¬ F k) (hn : l.length ≤ 60) (hcl : l.length ≤ cl)
    (hcm : cl ≤ maxLen) (hT : T.length ≤ 4000) (hok : ∀ e ∈ l, OkE e) (hc0 : -9223372036854775808 ≤ c) (hc1 : c ≤ 9223372036854775807) (hn0 : -9223372036854775808 ≤ now) (hn1 : now ≤ 9223372036854775807) :
    Calls Try.prog 17 #[.pointer (some ⟨g, 0, none⟩), .slice L l.length cl, .int .i64 c, .int .i64 now] w (Gone w g F T (goR T l c now)) := by
  unfold maxLen at hcm
  obtain ⟨i0, hi0, hz0, hz1, hz2⟩ := info_parts info_to
  have HI := Lib.hid hi0
  have HZ0 := Lib.hid hz0
  have HZ1 := Lib.hid hz1
  have HZ2 := Lib.hid hz2
  have HQ := Lib.hid hq
  have HL := Lib.hid hl
  have HLF := Lib.hid hLF
  have HOK := Lib.hid hok
  clear hi0 hz0 hz1 hz2 hq hl hLF hok
  go_enter Try.func17, Try.ntmps17
  go_upto_region 3 with (fail)
  go_cut [1] (fun s1 wx => s1 = .slice L l.length cl ∧ w = wx)
  case first =>
    have j0 : min (l.length : Int) 60 = (l.length : Int) := by omega
    have j1 : (0 : Int) ≤ (l.length : Int) := by omega
    have j2 : (l.length : Int) ≤ (cl : Int) := by omega
    go_wp2_with fail
    go_meet
    exact ⟨rfl, rfl⟩
  case rest =>
    obtain ⟨rfl, rfl⟩ := hcut
    have h0 := Lib.hid (show GoInv w g F T w.heap.size Sn.cells (runR T l c now 0) (.slice none 0 0) (w.alloc (.cells #[.bool true, .bool true, .bool true, .bool true] 61)) from
      ⟨none, 0, F, rfl, Own.nil _ _, by simp [blk], Cells.new w _ _, Nat.le_refl _, by simpa [runR] using HQ.out.none_ ((Mod.refl _ _).alloc _), fun h => by
        obtain ⟨_, _, _, _, _, _, _, h6⟩ := HQ.out
        exact absurd (h6 _ h) (by omega), fun k h => .inl h, (Mod.refl _ _).alloc _⟩)
    go_wp2_with fail
    go_loopg [10, 25] l.length (fun m v10 v25 wr => ∃ k : Nat, k ≤ l.length ∧ v25 = .int .i64 k ∧ Hid (GoInv w g F T w.heap.size Sn.cells (runR T l c now k) v10 wr) ∧ m + k = l.length)
    case atStart => exact ⟨0, by omega, rfl, h0, by omega⟩
    case round =>
      obtain ⟨k, hk, rfl, HV, hm⟩ := hrel
      clear h0
      have hrl := runR_len T l c now k
      by_cases hlt : k < l.length
      · have hrn := runR_next (T := T) (c := c) (now := now) hlt
        have HRN := Lib.hid hrn
        clear hrn
        obtain ⟨A, d, F', rfl, hO, hA, hS, hgs, hQ, hF', hFF, hM⟩ := HV.out
        clear HV
        have hsl := HL.out.mod hM HLF.out
        obtain ⟨b, o, rfl, hb, q0, q1, q2, q3, q4, q5, q6⟩ := hsl.ent hlt
        clear hsl
        have hokk := HOK.out l[k] (List.getElem_mem hlt)
        have hcl0 := may_clip (runR T l c now k).s l[k] k l.length c now hlt
        obtain ⟨ca, hca⟩ : ∃ ca, max c 0 = ca := ⟨_, rfl⟩
        obtain ⟨cc, hcc⟩ : ∃ cc, min ca (l.length : Int) = cc := ⟨_, rfl⟩
        rw [hca, hcc] at hcl0
        have hc2 : 0 ≤ cc := by omega
        have hc3 : cc ≤ 60 := by omega
        have HCA := Lib.hid hca
        have HCC := Lib.hid hcc
        clear hca hcc
        have hgw : g < wr.heap.size := hQ.lt
        have hgsw : w.heap.size < wr.heap.size := hS.2.2
        have HO := Lib.hid hO
        have HA := Lib.hid hA
        have HS := Lib.hid hS
        have HQ' := Lib.hid hQ
        have HF' := Lib.hid hF'
        have HFF := Lib.hid hFF
        have HM := Lib.hid hM
        clear hO hA hS hQ hF' hFF hM
        generalize runR T l c now k = r at *
        obtain ⟨out, s⟩ := r
        simp only [] at *
        have hmay := fun cc W h0 h1 => may_any s l[k] k cc now W hokk (by omega) h0 h1 hn0 hn1
        have hhas := fun F1 T1 W h => has_any g F1 T1 l[k] W h
        have hone := Lib.hid (To.one ⟨(k : Int) + 1, l[k]⟩)
        have hcs := fun W (h : Mod (fun _ => False) (wr.alloc (.cells #[.int .i64 l[k].fr, .int .i64 l[k].bo, .int .i64 l[k].se, .int .i64 l[k].od, .int .i64 l[k].lv, .int .i64 l[k].st, .string l[k].da] 39)) W) => (show Cells W wr.heap.size l[k].cells from (Cells.new wr _ 39).mod h (by simp))
        have HCS := Lib.hid hcs
        have HMay := Lib.hid hmay
        have HHas := Lib.hid hhas
        have HCl := Lib.hid hcl0
        have HOKK := Lib.hid hokk
        clear hmay hhas hcs hcl0 hokk
        unfold To.cells En.cells at hone
        generalize l[k] = e at *
        have MW := Lib.hid ((Mod.refl (fun _ => False) wr).alloc (.cells #[.int .i64 e.fr, .int .i64 e.bo, .int .i64 e.se, .int .i64 e.od, .int .i64 e.lv, .int .i64 e.st, .string e.da] 39))
        unfold En.val Sn.val at HMay
        unfold En.val at HHas
        go_upto_region 9 with (fail)
        go_cut [46] (fun s46 wx => s46 = .bool (!hasB (T ++ out) e && mayB s e k c now) ∧ Hid (Mod (fun _ => False) (wr.alloc (.cells #[.int .i64 e.fr, .int .i64 e.bo, .int .i64 e.se, .int .i64 e.od, .int .i64 e.lv, .int .i64 e.st, .string e.da] 39)) wx))
        case first =>
          cases hv : hasB (T ++ out) e
          · have HV := Lib.hid hv
            clear hv
            go_wp2_with fail
            refine (HHas.out _ (T ++ out) _ (HQ'.out.none_ MW.out)).mono ?_
            rintro x w1 ⟨rfl, m1⟩
            rw [HV.out]
            have M1 := Lib.hid (MW.out.trans m1 (by simp))
            obtain ⟨x0, x1, x2, x3, x4, x5, x6⟩ : w1.cell? ⟨wr.heap.size, 0, none⟩ = some (.int .i64 e.fr) ∧ w1.cell? ⟨wr.heap.size, 1, none⟩ = some (.int .i64 e.bo) ∧ w1.cell? ⟨wr.heap.size, 2, none⟩ = some (.int .i64 e.se) ∧ w1.cell? ⟨wr.heap.size, 3, none⟩ = some (.int .i64 e.od) ∧ w1.cell? ⟨wr.heap.size, 4, none⟩ = some (.int .i64 e.lv) ∧ w1.cell? ⟨wr.heap.size, 5, none⟩ = some (.int .i64 e.st) ∧ w1.cell? ⟨wr.heap.size, 6, none⟩ = some (.string e.da) := by
              have h := HCS.out w1 m1
              exact ⟨h.1 0 _ rfl, h.1 1 _ rfl, h.1 2 _ rfl, h.1 3 _ rfl, h.1 4 _ rfl, h.1 5 _ rfl, h.1 6 _ rfl⟩
            obtain ⟨s0, s1, s2, s3⟩ : w1.cell? ⟨w.heap.size, 0, none⟩ = some (.bool s.al) ∧ w1.cell? ⟨w.heap.size, 1, none⟩ = some (.bool s.o0) ∧ w1.cell? ⟨w.heap.size, 2, none⟩ = some (.bool s.o1) ∧ w1.cell? ⟨w.heap.size, 3, none⟩ = some (.bool s.o2) := by
              have h := HS.out.mod M1.out (by simp)
              exact ⟨h.1 0 _ rfl, h.1 1 _ rfl, h.1 2 _ rfl, h.1 3 _ rfl⟩
            have MA := Lib.hid m1
            clear m1
            go_wp2_with fail
            all_goals
              with_reducible refine (HMay.out _ _ (by omega) (by omega)).mono ?_
              rintro x w2 ⟨rfl, m2⟩
              have MB := Lib.hid (MA.out.trans m2 (by simp))
              clear m2
              go_wp2_with fail
              go_meet
              refine ⟨?_, MB⟩
              refine congrArg Value.bool ?_
              rw [HV.out, Bool.not_false, Bool.true_and, ← HCl.out]
              try
                refine congrArg (fun v => mayB s e k v now) ?_
                have h1 := HCA.out
                have h2 := HCC.out
                omega
          · have HV := Lib.hid hv
            clear hv
            go_wp2_with fail
            refine (HHas.out _ (T ++ out) _ (HQ'.out.none_ MW.out)).mono ?_
            rintro x w1 ⟨rfl, m1⟩
            rw [HV.out]
            have MA := Lib.hid m1
            clear m1
            go_wp2_with fail
            go_meet
            exact ⟨by rw [HV.out]; rfl, MA⟩
        case rest =>
          obtain ⟨rfl, MB⟩ := hcut
          obtain ⟨wq, rfl⟩ : ∃ wq : World, wq = wc := ⟨_, rfl⟩
          have hb46 : ∃ b46, (!hasB (T ++ out) e && mayB s e k c now) = b46 := ⟨_, rfl⟩
          obtain ⟨b46, hb46⟩ := hb46
          rw [hb46]
          have M2 := Lib.hid (MW.out.trans MB.out (by simp))
          obtain ⟨x0, x1, x2, x3, x4, x5, x6⟩ : wq.cell? ⟨wr.heap.size, 0, none⟩ = some (.int .i64 e.fr) ∧ wq.cell? ⟨wr.heap.size, 1, none⟩ = some (.int .i64 e.bo) ∧ wq.cell? ⟨wr.heap.size, 2, none⟩ = some (.int .i64 e.se) ∧ wq.cell? ⟨wr.heap.size, 3, none⟩ = some (.int .i64 e.od) ∧ wq.cell? ⟨wr.heap.size, 4, none⟩ = some (.int .i64 e.lv) ∧ wq.cell? ⟨wr.heap.size, 5, none⟩ = some (.int .i64 e.st) ∧ wq.cell? ⟨wr.heap.size, 6, none⟩ = some (.string e.da) := by
            have h := HCS.out wq MB.out
            exact ⟨h.1 0 _ rfl, h.1 1 _ rfl, h.1 2 _ rfl, h.1 3 _ rfl, h.1 4 _ rfl, h.1 5 _ rfl, h.1 6 _ rfl⟩
          have hwz : wr.heap.size < wq.heap.size := (HCS.out wq MB.out).2.2
          cases hv : hasB (T ++ out) e
          · have HV := Lib.hid hv
            cases hmv : mayB s e k c now
            · have HMV := Lib.hid hmv
              obtain rfl : b46 = false := by rw [← hb46, hv, hmv]; rfl
              clear hmv hv hb46
              go_wp2_with fail
              refine (HHas.out _ (T ++ out) _ (HQ'.out.none_ M2.out)).mono ?_
              rintro x w3 ⟨rfl, m3⟩
              rw [HV.out]
              have M3 := Lib.hid (M2.out.trans m3 (by simp))
              have MC := Lib.hid (MB.out.trans m3 (by simp))
              clear m3 x0 x1 x2 x3 x4 x5 x6 hwz
              obtain ⟨x3, f0⟩ : w3.cell? ⟨wr.heap.size, 3, none⟩ = some (.int .i64 e.od) ∧ wr.heap.size < w3.heap.size := by
                have h := HCS.out w3 MC.out
                exact ⟨h.1 3 _ rfl, h.2.2⟩
              have hS3 := HS.out.mod M3.out (by simp)
              obtain ⟨s0, s1, s2, s3⟩ : w3.cell? ⟨w.heap.size, 0, none⟩ = some (.bool s.al) ∧ w3.cell? ⟨w.heap.size, 1, none⟩ = some (.bool s.o0) ∧ w3.cell? ⟨w.heap.size, 2, none⟩ = some (.bool s.o1) ∧ w3.cell? ⟨w.heap.size, 3, none⟩ = some (.bool s.o2) := ⟨hS3.1 0 _ rfl, hS3.1 1 _ rfl, hS3.1 2 _ rfl, hS3.1 3 _ rfl⟩
              have f1 : ∀ j, w3.frozen? ⟨w.heap.size, j, none⟩ = false := hS3.2.1
              have hne : ¬ wr.heap.size = w.heap.size := by omega
              have HS3 := Lib.hid hS3
              clear hS3
              have hod : e.od = 0 ∨ e.od = 1 ∨ e.od = 2 := by have := HOKK.out.1; omega
              have HX := Lib.hid (show GoInv w g F T w.heap.size Sn.cells ⟨out, s⟩ (.slice A out.length d) w3 from ⟨A, d, F', rfl, HO.out.mod M3.out (by simp), HA.out, HS3.out, by omega, HQ'.out.none_ M3.out, HF'.out, HFF.out, HM.out.trans M3.out (by simp)⟩)
              have HST := Lib.hid (step_not (i := k) (c := c) (now := now) (r := ⟨out, s⟩) HV.out HMV.out)
              rcases hod with h | h | h
              all_goals
                rw [h] at x3
                have HH := Lib.hid h
                clear h
                go_wp2_with fail
                go_roundg (l.length - (k + 1))
                case measure => omega
                case rel =>
                  refine ⟨k + 1, by omega, by go_num, Lib.hid ?_, by omega⟩
                  rw [HRN.out, HST.out]
                  exact HX.out.drop HS3.out 0 _ (by rw [HH.out]; simp [Sn.drop, Sn.cells])
            · have HMV := Lib.hid hmv
              obtain rfl : b46 = true := by rw [← hb46, hv, hmv]; rfl
              clear hmv hv hb46
              go_upto_region 11 with (fail)
              have M3 := Lib.hid (M2.out.alloc (.cells #[.int .i64 ((k : Int) + 1), .int .i64 e.fr, .int .i64 e.bo, .int .i64 e.se, .int .i64 e.od, .int .i64 e.lv, .int .i64 e.st, .string e.da] 44))
              have hT3 := Cells.new wq #[.int .i64 ((k : Int) + 1), .int .i64 e.fr, .int .i64 e.bo, .int .i64 e.se, .int .i64 e.od, .int .i64 e.lv, .int .i64 e.st, .string e.da] 44
              have hz3 : (wq.alloc (.cells #[.int .i64 ((k : Int) + 1), .int .i64 e.fr, .int .i64 e.bo, .int .i64 e.se, .int .i64 e.od, .int .i64 e.lv, .int .i64 e.st, .string e.da] 44)).heap.size = wq.heap.size + 1 := by simp
              have hE3 := (HCS.out wq MB.out).alloc (.cells #[.int .i64 ((k : Int) + 1), .int .i64 e.fr, .int .i64 e.bo, .int .i64 e.se, .int .i64 e.od, .int .i64 e.lv, .int .i64 e.st, .string e.da] 44)
              clear x0 x1 x2 x3 x4 x5 x6
              generalize hW3 : wq.alloc (.cells #[.int .i64 ((k : Int) + 1), .int .i64 e.fr, .int .i64 e.bo, .int .i64 e.se, .int .i64 e.od, .int .i64 e.lv, .int .i64 e.st, .string e.da] 44) = W3 at *
              clear hW3
              have HQ3 := Lib.hid (HQ'.out.none_ M3.out)
              obtain ⟨Aq, cq, hC, hO2, hne, hFg, hFA, hFs⟩ := HQ3.out
              have y0 : W3.cell? ⟨wq.heap.size, 0, none⟩ = some (.int .i64 ((k : Int) + 1)) := hT3.1 0 _ rfl
              have y1 : W3.cell? ⟨wq.heap.size, 1, none⟩ = some (.int .i64 e.fr) := hT3.1 1 _ rfl
              have y2 : W3.cell? ⟨wq.heap.size, 2, none⟩ = some (.int .i64 e.bo) := hT3.1 2 _ rfl
              have y3 : W3.cell? ⟨wq.heap.size, 3, none⟩ = some (.int .i64 e.se) := hT3.1 3 _ rfl
              have y4 : W3.cell? ⟨wq.heap.size, 4, none⟩ = some (.int .i64 e.od) := hT3.1 4 _ rfl
              have y5 : W3.cell? ⟨wq.heap.size, 5, none⟩ = some (.int .i64 e.lv) := hT3.1 5 _ rfl
              have y6 : W3.cell? ⟨wq.heap.size, 6, none⟩ = some (.int .i64 e.st) := hT3.1 6 _ rfl
              have y7 : W3.cell? ⟨wq.heap.size, 7, none⟩ = some (.string e.da) := hT3.1 7 _ rfl
              have c0 : W3.cell? ⟨g, 0, none⟩ = some (.slice Aq (T ++ out).length cq) := hC.1 0 _ rfl
              have c0a : ∀ o, (W3.alloc o).cell? ⟨g, 0, none⟩ = some (.slice Aq (T ++ out).length cq) := fun o => (hC.alloc o).1 0 _ rfl
              have f0 := hC.2.1 0
              have hg1 := hC.2.2
              have hbig : (T ++ out).length ≤ 5000 := by rw [List.length_append]; omega
              have hz4 : wq.heap.size < W3.heap.size := by omega
              have HZ3 := Lib.hid hz3
              clear hz3
              have HT3 := Lib.hid hT3
              have HE3 := Lib.hid hE3
              have HC := Lib.hid hC
              have HO2 := Lib.hid hO2
              have HN := Lib.hid hne
              have HFg := Lib.hid hFg
              have HFA := Lib.hid hFA
              have HFs := Lib.hid hFs
              clear hT3 hE3 hC hO2 hne hFg hFA hFs
              generalize hTo : T ++ out = To' at *
              have HTo := Lib.hid hTo
              clear hTo
              go_cut [] (fun wx => QMid W3 g F' To' ⟨(k : Int) + 1, e⟩ wx)
              case first =>
                go_region_law
                  ((refine step_append_Own _ (by rfl) _ _ _ (by rfl) 44 i0 _ 8 72 Try.underlying30 HI.out HZ0.out HZ1.out HZ2.out (by rfl) (by decide) Aq To'.length cq (tcells To') (by rfl) (by exact HO2.out.alloc _) ⟨W3.heap.size, 0, none⟩ 1 1 _ (by rfl) (by rfl) (by exact World.news_of_block (heap_alloc_new _ _)) hone.out (by decide) (by unfold maxLen; omega) (by omega) ?_; intro A2 c2 w2 ho2 hg2 hb2; have hC2 : Cells w2 g [.slice Aq To'.length cq] := Cells.grown (by first | exact (HC.out.alloc _).drew | exact HC.out.drew.alloc _) hg2 HN.out; have k0 : w2.cell? ⟨g, 0, none⟩ = some (.slice Aq To'.length cq) := hC2.1 0 _ rfl; have k1 := hC2.2.1 0))
                all_goals
                  go_wp2_with fail
                  go_meet
                  exact q_tell HC.out HN.out HFg.out HFA.out HFs.out (by exact ((Mod.refl _ _).alloc _).drew) (by simp) ho2 hg2 hb2 hC2
              case rest =>
                clear y0 y1 y2 y3 y4 y5 y6 y7 c0 c0a f0
                obtain ⟨F2, hQ6, hM6, hF2⟩ := hcut
                have HQ6 := Lib.hid hQ6
                have HM6 := Lib.hid hM6
                have HF2 := Lib.hid hF2
                have hltF : ∀ q, F' q → q < wr.heap.size := by
                  obtain ⟨_, _, _, _, _, _, _, h6⟩ := HQ'.out
                  exact h6
                have hT6 := HT3.out.mod hM6 (fun h => by have := hltF _ h; omega)
                have hE6 := HE3.out.mod hM6 (fun h => by have := hltF _ h; omega)
                have HO6 := Lib.hid ((HO.out.mod M3.out (by simp)).mod hM6 fun q e => (HA.out q e).2.2)
                have hbE : blk A ≠ some wr.heap.size := fun e => by have := HO.out.lt e; omega
                have y0 : wc.cell? ⟨wq.heap.size, 0, none⟩ = some (.int .i64 ((k : Int) + 1)) := hT6.1 0 _ rfl
                have y1 : wc.cell? ⟨wq.heap.size, 1, none⟩ = some (.int .i64 e.fr) := hT6.1 1 _ rfl
                have y2 : wc.cell? ⟨wq.heap.size, 2, none⟩ = some (.int .i64 e.bo) := hT6.1 2 _ rfl
                have y3 : wc.cell? ⟨wq.heap.size, 3, none⟩ = some (.int .i64 e.se) := hT6.1 3 _ rfl
                have y4 : wc.cell? ⟨wq.heap.size, 4, none⟩ = some (.int .i64 e.od) := hT6.1 4 _ rfl
                have y5 : wc.cell? ⟨wq.heap.size, 5, none⟩ = some (.int .i64 e.lv) := hT6.1 5 _ rfl
                have y6 : wc.cell? ⟨wq.heap.size, 6, none⟩ = some (.int .i64 e.st) := hT6.1 6 _ rfl
                have y7 : wc.cell? ⟨wq.heap.size, 7, none⟩ = some (.string e.da) := hT6.1 7 _ rfl
                have HE6 := Lib.hid hE6
                have HBE := Lib.hid hbE
                clear hQ6 hM6 hF2 hltF hT6 hE6 hbE
                go_wp2_with (at_builtin; refine wpList_append_Own _ rfl _ _ _ rfl 44 i0 _ 8 72 Try.underlying30 HI.out HZ0.out HZ1.out HZ2.out rfl (by decide) A _ d _ rfl (HO6.out.alloc _) ⟨wc.heap.size, 0, none⟩ 1 1 _ rfl rfl (World.news_of_block (heap_alloc_new _ _)) hone.out (by decide) (by unfold maxLen; omega) (by omega) ?_; intro A8 d8 w8 ho8 hg8 hb8; have hE8 := Cells.grown (HE6.out.alloc _) hg8 HBE.out; have x0 := hE8.1 0 _ rfl; have x1 := hE8.1 1 _ rfl; have x2 := hE8.1 2 _ rfl; have x3 := hE8.1 3 _ rfl; have x4 := hE8.1 4 _ rfl; have x5 := hE8.1 5 _ rfl; have x6 := hE8.1 6 _ rfl; clear hE8)
                have hinv := GoInv.tell (r := ⟨out, s⟩) (t := ⟨(k : Int) + 1, e⟩) HO.out HA.out HS.out (Nat.le_refl _) HF'.out HFF.out HM.out M3.out (by rw [← HTo.out] at HQ6; exact HQ6.out) HM6.out HF2.out ((Mod.refl _ _).alloc _) ho8 hg8 hb8 rfl
                have HIV := Lib.hid hinv
                clear hinv ho8 hg8 hb8
                have HQ8 : Hid (∃ F8, IsQ w8 g F8 (To' ++ [⟨(k : Int) + 1, e⟩])) := Lib.hid (by
                  obtain ⟨_, _, F8, _, _, _, _, _, h, _⟩ := HIV.out
                  exact ⟨F8, by rw [← HTo.out, List.append_assoc]; exact h⟩)
                obtain ⟨F8, hQ8⟩ := HQ8.out
                have HQ9 := Lib.hid hQ8
                have HNew := Lib.hid (hasB_new To' e ((k : Int) + 1))
                clear hQ8
                refine (HHas.out _ _ _ HQ9.out).mono ?_
                rintro x w9 ⟨rfl, m9⟩
                rw [HNew.out]
                have hiv := Lib.hid (show GoInv w g F T w.heap.size Sn.cells (runR T l c now (k + 1)) (.slice A8 (out.length + 1) d8) w9 by
                  rw [HRN.out, step_tell (by rw [HTo.out]; exact HV.out) HMV.out]
                  exact HIV.out.mod m9)
                clear m9 x0 x1 x2 x3 x4 x5 x6 y0 y1 y2 y3 y4 y5 y6 y7
                go_wp2_with fail
                go_roundg (l.length - (k + 1))
                case measure => omega
                case rel => exact ⟨k + 1, by omega, by go_num, hiv, by omega⟩
          · have HV := Lib.hid hv
            obtain rfl : b46 = false := by rw [← hb46, hv]; rfl
            clear hv hb46
            go_wp2_with fail
            refine (HHas.out _ (T ++ out) _ (HQ'.out.none_ M2.out)).mono ?_
            rintro x w2 ⟨rfl, m2⟩
            rw [HV.out]
            have hinv := Lib.hid (show GoInv w g F T w.heap.size Sn.cells (runR T l c now (k + 1)) (.slice A out.length d) w2 by
              rw [HRN.out, step_has HV.out]
              exact ⟨A, d, F', rfl, HO.out.mod (M2.out.trans m2 (by simp)) (by simp), HA.out, HS.out.mod (M2.out.trans m2 (by simp)) (by simp), by omega, HQ'.out.none_ (M2.out.trans m2 (by simp)), HF'.out, HFF.out, HM.out.trans (M2.out.trans m2 (by simp)) (by simp)⟩)
            clear m2
            go_wp2_with fail
            go_roundg (l.length - (k + 1))
            case measure => omega
            case rel => exact ⟨k + 1, by omega, by go_num, hinv, by omega⟩
      · obtain rfl : k = l.length := by omega
        go_wp2_with fail
        go_ret
        exact HV.out.gone
end Go.Proofs.Ytcjnmiopklkifaa
