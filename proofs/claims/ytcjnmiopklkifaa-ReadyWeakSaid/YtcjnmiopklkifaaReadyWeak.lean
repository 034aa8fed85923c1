/- Proved: curfewlaw14.ReadyWeak answers true for every list of entries, and leaves what came in as it was. No condition. -/
import Derived.Test.YtcjnmiopklkifaaReadyP
namespace Go.Proofs.Ytcjnmiopklkifaa.readyWeak
open Go.ChangeShapes Go.WideShapes Go.ChangeAt Go.RowKit
set_option linter.unusedVariables false
set_option linter.unusedSimpArgs false
attribute [local go_sem ↓] Go.wp_at_zero Go.wp_at_succ

theorem Own.set_ {w : World} {size g o n c : Nat} {xs : List Value} (h : Own w size (some ⟨g, o, none⟩) n c xs) {j : Nat} (hj : j < n * size) (u : Value) : Own (w.setCell ⟨g, o + j, none⟩ u) size (some ⟨g, o, none⟩) n c (xs.set j u) := by
  obtain ⟨h1, h2, h3, h4⟩ := h
  rcases h4 with ⟨h5, _⟩ | ⟨g', o', e, hl, hr, hx⟩
  · cases h5
  · injection e with e
    injection e with e1 e2
    subst e1 e2
    have hle : n * size ≤ c * size := Nat.mul_le_mul_right _ h2
    refine ⟨by rw [List.length_set]; exact h1, h2, h3, .inr ⟨g, o, rfl, by simp [World.setCell]; exact hl, fun i hi => ⟨?_, by rw [World.frozen?_setCell]; exact (hr i hi).2⟩, fun i v hv => ?_⟩⟩
    · by_cases e : i = j
      · subst e
        obtain ⟨y, hy⟩ := Option.isSome_iff_exists.1 (hr i hi).1
        rw [World.cell?_setCell_same (h := hy)]; rfl
      · rw [World.cell?_setCell_other _ _ _ _ (by intro h; injection h with _ h; omega)]
        exact (hr i hi).1
    · by_cases e : i = j
      · subst e
        obtain ⟨y, hy⟩ := Option.isSome_iff_exists.1 (hr i (by omega)).1
        rw [List.getElem?_set_self (by rw [h1]; exact hj)] at hv
        injection hv with hv
        subst hv
        exact World.cell?_setCell_same (h := hy) ..
      · rw [List.getElem?_set_ne (fun h => e h.symm)] at hv
        rw [World.cell?_setCell_other _ _ _ _ (by intro h; injection h with _ h; omega)]
        exact hx i v hv
theorem ecells_cons (a : En) (l : List En) : ecells (a :: l) = a.cells ++ ecells l := rfl
theorem set_od : ∀ (l : List En) (k : Nat) (h : k < l.length), (ecells l).set (k * 7 + 3) (.int .i64 0) = ecells (l.set k { l[k] with od := 0 })
  | a :: l, 0, _ => rfl
  | a :: l, k + 1, h => by
    have ih := set_od l k (by simpa using h)
    rw [ecells_cons, List.set_append_right _ _ (by rw [En.cells_len]; omega), En.cells_len, show (k + 1) * 7 + 3 - 7 = k * 7 + 3 by omega, ih]
    rfl
theorem set_lv : ∀ (l : List En) (k : Nat) (h : k < l.length), (ecells l).set (k * 7 + 4) (.int .i64 0) = ecells (l.set k { l[k] with lv := 0 })
  | a :: l, 0, _ => rfl
  | a :: l, k + 1, h => by
    have ih := set_lv l k (by simpa using h)
    rw [ecells_cons, List.set_append_right _ _ (by rw [En.cells_len]; omega), En.cells_len, show (k + 1) * 7 + 4 - 7 = k * 7 + 4 by omega, ih]
    rfl
def zero (e : En) : En := { e with od := 0, lv := 0 }
/-- the first k are Any and Weak -/
def Zd (l y : List En) (k : Nat) : Prop := y.length = l.length ∧ ∀ j (h : j < l.length) (h2 : j < y.length), y[j] = if j < k then zero l[j] else l[j]
theorem Zd.next {l y : List En} {k : Nat} (h : Zd l y k) (hk : k < l.length) : ∃ y2, ecells y2 = ((ecells y).set (k * 7 + 3) (.int .i64 0)).set (k * 7 + 4) (.int .i64 0) ∧ Zd l y2 (k + 1) := by
  obtain ⟨h1, h2⟩ := h
  have hky : k < y.length := by omega
  refine ⟨(y.set k { y[k] with od := 0 }).set k { y[k] with od := 0, lv := 0 }, ?_, by simp [h1], fun j hj hj2 => ?_⟩
  · rw [set_od y k hky, set_lv _ k (by simpa using hky)]
    simp
  · simp at hj2
    rw [List.getElem_set]
    by_cases e : k = j
    · subst e
      rw [if_pos rfl, if_pos (by omega), h2 k hk hky, if_neg (by omega)]
      rfl
    · rw [if_neg e, List.getElem_set, if_neg e, h2 j hj (by omega)]
      by_cases hjk : j < k
      · rw [if_pos hjk, if_pos (by omega)]
      · rw [if_neg hjk, if_neg (by omega)]

set_option maxRecDepth 100000 in
set_option maxHeartbeats 6400000 in
theorem walk (a0 : Option Addr) (len0 cap0 : Nat) (w : World) (w0 : EntryRow w a0 len0 cap0) :
    Calls Try.prog 11 #[.slice a0 len0 cap0] w fun e w' => e = .returned (.bool true) ∧ Below w.heap.size w w' := by
  obtain ⟨es, rfl, hes, hde⟩ := w0
  have HES := Lib.hid hes
  clear hes
  go_enter Try.func11, Try.ntmps11
  go_wp2_with fail
  refine (begun_any _).mono ?_
  rintro e wb ⟨rfl, hb⟩
  have HB := Lib.hid hb
  clear hb
  have hx : ((es.take 12).map En.cut).length ≤ 12 := by simp; omega
  have hdx := ent_size (n := 12) hde
  go_wp2_with fail
  refine (entries_any a0 es cap0 12 wb (HES.out.below HB.out) hde (by decide)).mono ?_
  rintro e w1 ⟨A, c, rfl, oA, mA, bA⟩
  generalize (es.take 12).map En.cut = x at *
  have M1 := Lib.hid mA
  have OA := Lib.hid oA
  clear oA mA bA hde HES
  go_wp2_with fail
  refine (log_any A x c w1 (Sl.of_own OA.out) hdx (by omega)).mono ?_
  rintro e w2 ⟨L, cl, rfl, oL, mL, bL⟩
  have hll := logL_len x
  have hlo := Lib.hid (logL_ok x)
  generalize logL x = l at *
  have M2 := Lib.hid (M1.out.trans mL (by simp))
  have OL := Lib.hid oL
  have BL := Lib.hid bL
  clear oL mL bL hdx
  have hcl := OL.out.2.1
  have hcm := OL.out.2.2.1
  unfold maxLen at hcm
  have hle : l.length ≤ 12 := by omega
  have BL2 := Lib.hid (show ∀ g, blk L = some g → wb.heap.size ≤ g from fun g hg => Nat.le_trans M1.out.size (BL.out g hg))
  go_wp2_with fail
  go_loopg [5] l.length (fun m v5 wr => ∃ (k : Nat) (y : List En), k ≤ l.length ∧ v5 = .int .i64 k ∧ Hid (Zd l y k) ∧ Hid (Own wr 7 L l.length cl (ecells y)) ∧ Hid (Mod (fun j => wb.heap.size ≤ j) wb wr) ∧ m + k = l.length)
  case atStart => exact ⟨0, l, by omega, rfl, Lib.hid ⟨rfl, fun j h _ => by simp⟩, OL, Lib.hid (M2.out.mono (by simp)), by omega⟩
  case round =>
    obtain ⟨k, y, hk, rfl, HZ, HO, HM, hm⟩ := hrel
    obtain ⟨wo, rfl⟩ : ∃ wo : World, wo = wr := ⟨_, rfl⟩
    have hyl := HZ.out.1
    by_cases hlt : k < l.length
    · obtain ⟨g, o, hL, hgl⟩ := HO.out.form (by omega)
      have HLA := Lib.hid hL
      have hgb : wb.heap.size ≤ g := BL2.out g (by rw [hL]; rfl)
      have hO := HO.out
      rw [hL] at hO
      obtain ⟨y2, hy2, hz2⟩ := HZ.out.next hlt
      have hset := Own.set_ (Own.set_ hO (j := k * 7 + 3) (by omega) (.int .i64 0)) (j := k * 7 + 4) (by omega) (.int .i64 0)
      rw [← hy2] at hset
      have HS2 := Lib.hid hset
      have HZ2 := Lib.hid hz2
      have HM2 := Lib.hid ((HM.out.setCell (p := ⟨g, o + (k * 7 + 3), none⟩) (.inl hgb) (.int .i64 0)).setCell (p := ⟨g, o + (k * 7 + 4), none⟩) (.inl hgb) (.int .i64 0))
      obtain ⟨g', o', e', _, q0, q1, q2, q3, q4, q5, q6⟩ := (Sl.of_own hO).ent (show k < y.length by omega)
      injection e' with e'
      injection e' with e1 e2
      subst e1 e2
      have fz : ∀ j, j < 7 → wo.frozen? ⟨g, o + k * 7 + j, none⟩ = false := fun j hj => by
        rcases hO.2.2.2 with ⟨h, _⟩ | ⟨g', o', e', _, hr, _⟩
        · cases h
        · injection e' with e'
          injection e' with e1 e2
          subst e1 e2
          rw [Nat.add_assoc]
          exact (hr (k * 7 + j) (by omega)).2
      have f3 := fz 3 (by omega)
      have f4 := fz 4 (by omega)
      have i0 : (0 : Int) ≤ (k : Int) := by omega
      have i1 : (k : Int) < (l.length : Int) := by omega
      clear hO hset hy2 hz2 fz q0 q1 q2 q5 q6
      rw [hL]
      clear hL
      go_wp2_with fail
      rw [← HLA.out]
      go_roundg (l.length - (k + 1))
      case measure => omega
      case rel =>
        refine ⟨k + 1, y2, by omega, by go_num, HZ2, ?_, ?_, by omega⟩
        · have h := HS2.out
          rw [← HLA.out, ← Nat.add_assoc, ← Nat.add_assoc] at h
          exact Lib.hid h
        · have h := HM2.out
          rw [← Nat.add_assoc, ← Nat.add_assoc] at h
          exact Lib.hid h
    · obtain rfl : k = l.length := by omega
      have hy : ∀ j (h : j < y.length), y[j] = zero (l[j]'(by omega)) := fun j h => by rw [HZ.out.2 j (by omega) h, if_pos (by omega)]
      have hok : ∀ e ∈ y, OkE e := fun e he => by
        obtain ⟨j, hj, rfl⟩ := List.getElem_of_mem he
        have h := log_okE hlo.out (l[j]'(by omega)) (List.getElem_mem _)
        rw [hy j hj]
        unfold OkE zero at *
        simp only []
        omega
      have hnd : (y.map key).Nodup := by
        have h := keys_nodup hlo.out.2
        have e : y.map key = l.map key := by
          apply List.ext_getElem
          · simp [hyl]
          · intro j h1 h2
            simp only [List.getElem_map]
            rw [hy j (by simpa using h1)]
            rfl
        rw [e]; exact h
      have hall : ∀ j (h : j < y.length), hasB ([] ++ goR [] y 0 0) y[j] = true := fun j hj => (run_all (T := []) (l := y) (c := 0) (now := 0) (fun i hi => by
        rw [hy i hi]
        exact ⟨.inl rfl, .inl rfl⟩) y.length (Nat.le_refl _)).2 j hj hj
      have hof := (Of.nil y).go (m := y) (fun e h => h) 0 0
      have hful := hof.full hnd fun e he => by
        obtain ⟨j, hj, rfl⟩ := List.getElem_of_mem he
        exact hall j hj
      have HOKy := Lib.hid hok
      have HAll := Lib.hid hall
      have HO2 := Lib.hid (show Own wo 7 L y.length cl (ecells y) by rw [hyl]; exact HO.out)
      clear hy hok hnd hof hall HZ
      simp only [List.nil_append] at hful HAll
      go_wp2_with fail
      refine (newQ_any _).mono ?_
      rintro e w3 ⟨g, rfl, hq, m3, hg3⟩
      have hst := Lib.hid (show St wb g L cl y [] w3 from ⟨_, hq, HO2.out.mod m3 (by simp), fun k hk h => by have := HO2.out.lt hk; omega, fun k h => by have := HM.out.size; omega, HM.out.trans m3 (by simp)⟩)
      have hg := hst.out.go y.length 0 0 (Nat.le_refl _) (by omega) (by simp) HOKy.out (by omega) (by omega) (by omega) (by omega)
      rw [List.take_length, hyl] at hg
      have HG := Lib.hid hg
      clear hq m3 hg3 hg
      go_wp2_with fail
      with_reducible refine HG.out.mono ?_
      rintro e z ⟨AT, ct, rfl, oT, sT, mT⟩
      have ST := Lib.hid sT
      clear oT sT mT
      simp only [List.nil_append] at ST
      generalize goR [] y 0 0 = T at *
      obtain ⟨i0, hi0, hz0, hz1, hz2⟩ := info_parts info_en
      have HI := Lib.hid hi0
      have HZ0 := Lib.hid hz0
      have HZ1 := Lib.hid hz1
      have HZ2 := Lib.hid hz2
      clear hi0 hz0 hz1 hz2
      rw [hful, hyl]
      go_wp2_with fail
      go_loopg [8, 9] l.length (fun m v8 v9 wr => ∃ (q : List En) (M : Option Addr) (d r : Nat), m = r ∧ v9 = .int .i64 ((r : Int) - 1) ∧ v8 = .slice M q.length d ∧ r + q.length = l.length ∧ Hid (∀ e ∈ q, e ∈ y) ∧ Hid (Own wr 7 M q.length d (ecells q)) ∧ Hid (Mod (fun _ => False) z wr) ∧ Hid (∀ k, blk M = some k → z.heap.size ≤ k))
      case atStart => exact ⟨[], none, 0, l.length, rfl, rfl, rfl, by simp, Lib.hid (by simp), Lib.hid (Own.nil _ _), Lib.hid (Mod.refl _ _), Lib.hid (by simp [blk])⟩
      case round =>
        obtain ⟨q, M, d, r, hmr, rfl, rfl, hmq, HQ, HO4, HM4, HB4⟩ := hrel
        cases r with
        | succ k =>
          have hky : k < y.length := by omega
          have e9 : (((k + 1 : Nat)) : Int) - 1 = (k : Int) := by omega
          rw [e9]
          obtain ⟨_, _, hOw, _⟩ := ST.out.mod HM4.out
          obtain ⟨gl, ol, hL, hgl2, p0, p1, p2, p3, p4, p5, p6⟩ := (Sl.of_own hOw).ent hky
          have hone := Lib.hid (En.one y[k])
          have hmem := Lib.hid (List.getElem_mem hky)
          have j0 : (0 : Int) ≤ (k : Int) := by omega
          have j1 : (k : Int) < (l.length : Int) := by omega
          have HLA := Lib.hid hL
          clear hOw e9
          generalize y[k] = X at *
          unfold En.cells at hone
          rw [hL]
          clear hL
          go_wp2_with (at_builtin; refine wpList_append_Own _ rfl _ _ _ rfl 39 i0 _ 7 64 Try.underlying22 HI.out HZ0.out HZ1.out HZ2.out rfl (by decide) M q.length d _ rfl (HO4.out.alloc _) ⟨wr.heap.size, 0, none⟩ 1 1 _ rfl rfl (World.news_of_block (heap_alloc_new _ _)) hone.out (by decide) (by unfold maxLen; omega) (by omega) ?_; intro B2 d2 w2 ho2 hg2 hb2)
          have ho3 := Lib.hid (show Own w2 7 B2 (q ++ [X]).length d2 (ecells (q ++ [X])) by rw [ecells_app, List.length_append]; simpa [ecells, En.cells] using ho2)
          have hm3 := Lib.hid ((HM4.out.alloc _).grown hg2 fun g e => .inr (HB4.out g e))
          have hb3 := Lib.hid (show ∀ g, blk B2 = some g → z.heap.size ≤ g by
            intro g e
            rcases hb2 with h | ⟨q, h, hq⟩
            · exact HB4.out g (h.symm.trans e)
            · have := h.symm.trans e; injection this with this; subst this; have h5 := HM4.out.size; simp at hq; omega)
          clear ho2 hg2 hb2
          rw [← HLA.out]
          go_wp2_with fail
          go_roundg k
          case measure => omega
          case rel => exact ⟨q ++ [X], B2, d2, k, rfl, by go_num, by rw [List.length_append]; rfl, by rw [List.length_append]; simp; omega, Lib.hid (fun e he => by rcases List.mem_append.1 he with h | h; exact HQ.out e h; rw [List.mem_singleton.1 h]; exact hmem.out), ho3, hm3, hb3⟩
        | zero =>
          have e9 : (((0 : Nat)) : Int) - 1 = -1 := by omega
          rw [e9]
          obtain ⟨F, hq, hOw, hLF, hF, hMod⟩ := ST.out
          have hnone : goR T q q.length 9 = [] := run_none (fun e he => by
            obtain ⟨j, hj, rfl⟩ := List.getElem_of_mem (HQ.out e he)
            exact HAll.out j hj) q.length (Nat.le_refl _)
          have hFb : ∀ k, F k → k < z.heap.size := by obtain ⟨_, _, _, _, _, _, _, h6⟩ := hq; exact h6
          have hcd := HO4.out.2.1
          have hgo := go_any g F T M q d q.length 9 wr (hq.none_ HM4.out) (Sl.of_own HO4.out) (fun k hk hFk => by have h1 := HB4.out k hk; have h2 := hFb k hFk; omega) (by omega) hcd HO4.out.2.2.1 (by omega) (fun e he => HOKy.out e (HQ.out e he)) (by omega) (by omega) (by omega) (by omega)
          rw [hnone] at hgo
          have HGo := Lib.hid hgo
          have HMod := Lib.hid hMod
          have HF := Lib.hid hF
          have hq2 : q.length = l.length := by omega
          clear hgo hnone hq hOw hLF hFb hMod hF ST
          rw [hq2] at HGo ⊢
          go_wp2_with fail
          refine HGo.out.mono ?_
          rintro e z3 ⟨A3, c3, F3, rfl, o3, q3, m3, f3, b3⟩
          have HT := Lib.hid (toldQ_any g F3 T z3 (by simpa using q3) (by omega))
          have M3 := Lib.hid m3
          clear o3 q3 m3 f3 b3
          go_wp2_with fail
          refine HT.out.mono ?_
          rintro e z4 ⟨A4, c4, rfl, -, m4, -⟩
          have M4 := Lib.hid m4
          clear m4
          rw [hful, hyl]
          go_wp2_with fail
          go_ret
          exact ⟨rfl, Mod.below HB.out (((HMod.out.trans HM4.out (by simp)).trans M3.out (fun k hk => .inl (HF.out k hk))).trans M4.out (by simp)) (fun k hk => Nat.le_trans HB.out.size hk)⟩
/-! ### the row's step -/
theorem own : ownKnob Try.prog.godebug = none := by kernel_rfl
theorem laidOut : laidOutB Try.prog = true := by kernel_rfl
set_option maxRecDepth 100000 in
theorem lifted (os : Os) (started : os.Started) (H : Type) (enc : TypeId × Value → H) :
    ReturnsInHanded {} Try.checked os 11 .any (Rows.readyWeakSpec.pre6 enc Try.prog Try.f11 Rows.readyWeakRow.domain false) (Rows.readyWeakSpec.post enc Try.prog Try.f11 false true false false) := by
  refine returnsInHanded_of_change (C := Try.checked) own started (by kernel_rfl) Try.func11
    (ChangeSpec.witness6 (enc := enc) (C := Try.checked) false ⟨#[], #[.slice none 0 0], []⟩ 8 (by kernel_rfl) (by kernel_rfl) (by kernel_rfl) (by kernel_rfl)) ?_
  intro W base args ds gs before hval0 hW hcnd _
  have hval : ∀ (j : Nat) t v, Try.f11.params[j]? = some t → args[j]? = some v → Value.okWide Try.prog W .any base t v := hval0
  have hW' := hW
  obtain ⟨p, q, hA0, hV, rfl, hfz, hnd⟩ := hW
  have hA : DataW.TrodAll enc Try.prog W 0 (fun _ => true) true Try.f11.params.toList args.toList ds p := hA0
  rw [Try.params11] at hA hval
  obtain ⟨v0, vs0, d0, ds0, p0, q0, hargs, rfl, rfl, h0, r0⟩ := trodAll_cons hA
  obtain ⟨rfl, rfl, rfl⟩ := trodAll_nil r0
  obtain rfl : args = #[v0] := by cases args; simp_all
  obtain ⟨rfl, rfl⟩ := trodVars_none hV
  have k0 := h0
  have lt0 : ∀ x ∈ p0, x.block < W.heap.size := by obtain ⟨m, hm⟩ := k0; exact DataW.trod_lt m _ _ _ hm
  obtain ⟨a0, len0, cap0, rfl⟩ := okWide_slice Try.underlying22 (hval 0 22 v0 rfl rfl)
  have w0 : EntryRow W a0 len0 cap0 := EntryRow.open_ h0
  clear hA0 hval0
  refine (walk a0 len0 cap0 W w0).mono fun e W' ⟨he, bel⟩ => ?_
  subst he
  exact ⟨_, rfl, _, _, _, [], _, [], hW', trodAll_mk1 (shut_bool Try.underlying4 _), (trodAll_cons_mk (Below.trod laidOut (by kernel_rfl) (of_decide_eq_true (by kernel_rfl)) k0 bel lt0) trodAll_mk0), rfl, bel.frame _, fun h => by cases h⟩

theorem over : Rows.readyWeakRow.holds Try.pinned (OpenSpec.ofChange Rows.readyWeakSpec) :=
  OpenClaim.holds_of_wide 11 Try.f11 rfl rfl rfl rfl rfl rfl rfl ⟨rfl, rfl, rfl, rfl, rfl⟩ rfl rfl rfl rfl rfl (by kernel_rfl) Try.func11 (by kernel_rfl)
    (of_decide_eq_true (by kernel_rfl)) (by unfold Func.isWrapper; first | (rw [if_pos (by decide +kernel)]; kernel_rfl) | (rw [if_neg (by decide +kernel)]; exact ⟨rfl, rfl⟩))
    (fun os started H enc _ => lifted os started H enc)

theorem proved : Rows.ReadyWeakSaid := over
#print axioms proved
end Go.Proofs.Ytcjnmiopklkifaa.readyWeak
