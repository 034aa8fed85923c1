/- Proved: curfewlaw22.ProofAll answers true for every start, every list of operations, every time and count, and leaves the list as it was. No condition. -/
import Derived.Test.YtlddijiljkmbmaaRefProof
import Derived.Deep.CutBlock
namespace Go.Proofs.Ytlddijiljkmbmaa.proofAll
open Go.ChangeShapes Go.WideShapes Go.ChangeAt Go.RowKit
set_option linter.unusedVariables false
set_option linter.unusedSimpArgs false
attribute [local go_sem ↓] Go.wp_at_zero Go.wp_at_succ

/-! ### the operations that came in -/
def IsOp (cs : List Value) : Prop := ∃ kd cm nm ck : Int, cs = [.int .i64 kd, .int .i64 cm, .int .i64 nm, .int .i64 ck]
def OpRow (w : World) (a : Option Addr) (len cap : Nat) : Prop := SlAt w 4 IsOp a len
theorem isOp_of {H : Type} {enc : TypeId × Value → H} {w : World} {base : Nat} {spare : Nat → Bool} {held : Bool} (n : Nat) (cs : List Value) (x : DataW H × List MemPlace)
    (h : DataW.trod enc Try.prog w base spare held n 37 cs = some x) : IsOp cs := by
  obtain ⟨xs, m, _, hx, hl, hlen, hf⟩ := DataW.trod_struct Try.underlying37 h
  have hl4 : cs.length = 4 := hl.trans (by kernel_rfl)
  have c1 : Try.prog.cellsOf 3 = 1 := by kernel_rfl
  have c2 : Try.prog.cellsOf 2 = 1 := by kernel_rfl
  match cs, hl4 with
  | [v0, v1, v2, v3], _ =>
    match xs, hlen with
    | [y0, y1, y2, y3], _ =>
      have t0 : DataW.trod enc Try.prog w base spare held m 3 (([v0, v1, v2, v3].drop 0).take (Try.prog.cellsOf 3)) = some y0 := hf 0 _ rfl
      have t1 : DataW.trod enc Try.prog w base spare held m 3 (([v0, v1, v2, v3].drop 1).take (Try.prog.cellsOf 3)) = some y1 := hf 1 _ rfl
      have t2 : DataW.trod enc Try.prog w base spare held m 2 (([v0, v1, v2, v3].drop 2).take (Try.prog.cellsOf 2)) = some y2 := hf 2 _ rfl
      have t3 : DataW.trod enc Try.prog w base spare held m 2 (([v0, v1, v2, v3].drop 3).take (Try.prog.cellsOf 2)) = some y3 := hf 3 _ rfl
      rw [c1] at t0 t1
      rw [c2] at t2 t3
      obtain ⟨n0, e0, -⟩ := DataW.trod_int Try.underlying3 t0
      obtain ⟨n1, e1, -⟩ := DataW.trod_int Try.underlying3 t1
      obtain ⟨n2, e2, -⟩ := DataW.trod_int Try.underlying2 t2
      obtain ⟨n3, e3, -⟩ := DataW.trod_int Try.underlying2 t3
      simp at e0 e1 e2 e3
      exact ⟨n0, n1, n2, n3, by rw [e0, e1, e2, e3]⟩
theorem OpRow.open_ {H : Type} {enc : TypeId × Value → H} {w : World} {base : Nat} {spare : Nat → Bool} {held : Bool} {a : Option Addr} {len cap : Nat} {d : DataW H} {p : List MemPlace}
    (h : DataW.Trod enc Try.prog w base spare held 31 (.slice a len cap) d p) : OpRow w a len cap :=
  SlAt.open_ Try.underlying31 (by kernel_rfl) (by decide) isOp_of h

/-! ### both proofs, in one state -/
structure St (W : World) (g h : Nat) (b : Int) (wr : World) (s : Pf) (F G : Nat → Prop) : Prop where
  p : IsPf wr g F s
  r : IsRf wr h G s
  inv : s.Inv
  num : 0 ≤ s.num ∧ s.num ≤ b
  bc : 0 ≤ s.bc ∧ s.bc ≤ 1099511627776
  ck : ∀ q ∈ s.l, 0 ≤ q.2 ∧ q.2 ≤ 1099511627776
  dis : ∀ q, F q → ¬ G q
  lf : ∀ q, F q → W.heap.size ≤ q ∧ q < wr.heap.size
  lg : ∀ q, G q → W.heap.size ≤ q ∧ q < wr.heap.size
  bel : Below W.heap.size W wr

theorem undrew {F : Nat → Prop} {w w' : World} (h : Mod F w.drew w') : Mod F w w' := ⟨h.os, h.tape, h.output, h.size, h.block⟩

theorem St.mod {W wr w' : World} {g h : Nat} {b : Int} {s : Pf} {F G D : Nat → Prop} (t : St W g h b wr s F G) (hm : Mod D wr w') (hF : ∀ k, F k → ¬ D k) (hG : ∀ k, G k → ¬ D k) (hD : ∀ k, D k → W.heap.size ≤ k) : St W g h b w' s F G :=
  ⟨t.p.mod hm hF, t.r.mod hm hG, t.inv, t.num, t.bc, t.ck, t.dis, fun q hq => ⟨(t.lf q hq).1, Nat.lt_of_lt_of_le (t.lf q hq).2 hm.size⟩, fun q hq => ⟨(t.lg q hq).1, Nat.lt_of_lt_of_le (t.lg q hq).2 hm.size⟩, Mod.below t.bel hm hD⟩

/-- behind both calls of one operation -/
theorem St.step {W wr w1 w2 : World} {g h : Nat} {b b' : Int} {s s' : Pf} {F G F1 G1 : Nat → Prop} (t : St W g h b wr s F G) (p1 : IsPf w1 g F1 s') (m1 : Mod F wr w1) (n1 : ∀ k, F1 k → F k ∨ wr.heap.size ≤ k)
    (p2 : IsRf w2 h G1 s') (m2 : Mod G w1 w2) (n2 : ∀ k, G1 k → G k ∨ w1.heap.size ≤ k) (hi : s'.Inv) (hn : 0 ≤ s'.num ∧ s'.num ≤ b') (hb : 0 ≤ s'.bc ∧ s'.bc ≤ 1099511627776) (hk : ∀ q ∈ s'.l, 0 ≤ q.2 ∧ q.2 ≤ 1099511627776) :
    St W g h b' w2 s' (fun k => F1 k ∧ k < w1.heap.size) (fun k => G1 k ∧ k < w2.heap.size) := by
  have B1 := Mod.below t.bel m1 fun k hk => (t.lf k hk).1
  have B2 := Mod.below B1 m2 fun k hk => (t.lg k hk).1
  have hFG : ∀ k, F1 k ∧ k < w1.heap.size → ¬ G k := fun k hk hg => by
    rcases n1 k hk.1 with h1 | h1
    · exact t.dis k h1 hg
    · have := (t.lg k hg).2; omega
  refine ⟨(p1.trim).mod m2 hFG, p2.trim, hi, hn, hb, hk, fun k hf hg => ?_, fun k hf => ⟨?_, Nat.lt_of_lt_of_le hf.2 m2.size⟩, fun k hg => ⟨?_, hg.2⟩, B2⟩
  · rcases n2 k hg.1 with h1 | h1
    · exact hFG k hf h1
    · have := hf.2; omega
  · rcases n1 k hf.1 with h1 | h1
    · exact (t.lf k h1).1
    · exact Nat.le_trans t.bel.size h1
  · rcases n2 k hg.1 with h1 | h1
    · exact (t.lg k h1).1
    · exact Nat.le_trans B1.size h1

theorem inv_ask {s : Pf} (h : s.Inv) (hn : 0 ≤ s.num) (c : Int) : (s.ask c).Inv := by
  refine ⟨h.1, h.2.1, fun q hq => ?_⟩
  rcases List.mem_append.1 (List.mem_of_mem_drop hq) with h1 | h1
  · exact h.2.2 q h1
  · simp at h1; subst h1; simp; omega
theorem ck_ask {s : Pf} (h : ∀ q ∈ s.l, 0 ≤ q.2 ∧ q.2 ≤ 1099511627776) {c : Int} (hc : 0 ≤ c ∧ c ≤ 1099511627776) : ∀ q ∈ (s.ask c).l, 0 ≤ q.2 ∧ q.2 ≤ 1099511627776 := by
  intro q hq
  rcases List.mem_append.1 (List.mem_of_mem_drop hq) with h1 | h1
  · exact h q h1
  · simp at h1; subst h1; exact hc
theorem get_keeps {s : Pf} (hi : s.Inv) (hb : 0 ≤ s.bc ∧ s.bc ≤ 1099511627776) (hk : ∀ q ∈ s.l, 0 ≤ q.2 ∧ q.2 ≤ 1099511627776) (x c : Int) :
    (s.get x c).1.Inv ∧ (s.get x c).1.num = s.num ∧ (0 ≤ (s.get x c).1.bc ∧ (s.get x c).1.bc ≤ 1099511627776) ∧ ∀ q ∈ (s.get x c).1.l, 0 ≤ q.2 ∧ q.2 ≤ 1099511627776 := by
  unfold Pf.get
  split
  · exact ⟨hi, rfl, hb, hk⟩
  · split
    · rename_i q hq
      have hm := List.mem_of_find?_eq_some hq
      exact ⟨⟨fun _ => hi.2.2 q hm, fun h => by simp at h, hi.2.2⟩, rfl, hk q hm, hk⟩
    · exact ⟨hi, rfl, hb, hk⟩
theorem inv_drop (s : Pf) : s.drop.Inv := ⟨fun h => by simp [Pf.drop] at h, fun _ => ⟨rfl, rfl, rfl⟩, fun q h => by simp [Pf.drop] at h⟩

/-- in a round: the operation lies in a block of its own -/
def Mid (W : World) (g h : Nat) (b : Int) (kd cm nm : Int) (s13 : Value) (wx : World) : Prop :=
  ∃ (gb : Nat) (ck : Int) (s : Pf) (F G : Nat → Prop), s13 = .pointer (some ⟨gb, 0, none⟩) ∧ Cells wx gb [.int .i64 kd, .int .i64 cm, .int .i64 nm, .int .i64 ck] ∧ (0 ≤ ck ∧ ck ≤ 1099511627776) ∧ St W g h b wx s F G ∧ ¬ F gb ∧ ¬ G gb ∧ W.heap.size ≤ gb

theorem mid_mk {W wr : World} {g h : Nat} {b : Int} {s : Pf} {F G : Nat → Prop} (t : St W g h b wr s F G) (kd cm nm ck : Int) (hc : 0 ≤ ck ∧ ck ≤ 1099511627776) (ty : TypeId) :
    Mid W g h b kd cm nm (.pointer (some ⟨wr.heap.size, 0, none⟩)) (wr.alloc (.cells #[.int .i64 kd, .int .i64 cm, .int .i64 nm, .int .i64 ck] ty)) := by
  have hF : ¬ F wr.heap.size := fun hf => by have := (t.lf _ hf).2; omega
  have hG : ¬ G wr.heap.size := fun hf => by have := (t.lg _ hf).2; omega
  exact ⟨_, ck, s, F, G, rfl, Cells.new wr _ _, hc, t.mod (D := fun _ => False) ((Mod.refl _ _).alloc _) (by simp) (by simp) (by simp), hF, hG, t.bel.size⟩

theorem mid_step {W wx x1 x2 : World} {g h gb : Nat} {b b' : Int} {s s' : Pf} {F G F1 G1 : Nat → Prop} {kd cm nm cl : Int} (t : St W g h b wx s F G) (hC : Cells wx gb [.int .i64 kd, .int .i64 cm, .int .i64 nm, .int .i64 cl]) (hcl : 0 ≤ cl ∧ cl ≤ 1099511627776) (nF : ¬ F gb) (nG : ¬ G gb) (hgb : W.heap.size ≤ gb)
    (p1 : IsPf x1 g F1 s') (m1 : Mod F wx x1) (n1 : ∀ k, F1 k → F k ∨ wx.heap.size ≤ k) (p2 : IsRf x2 h G1 s') (m2 : Mod G x1 x2) (n2 : ∀ k, G1 k → G k ∨ x1.heap.size ≤ k)
    (hi : s'.Inv) (hn : 0 ≤ s'.num ∧ s'.num ≤ b') (hb : 0 ≤ s'.bc ∧ s'.bc ≤ 1099511627776) (hk : ∀ q ∈ s'.l, 0 ≤ q.2 ∧ q.2 ≤ 1099511627776) :
    Mid W g h b' kd cm nm (.pointer (some ⟨gb, 0, none⟩)) x2 := by
  have hlt := hC.2.2
  refine ⟨gb, cl, s', _, _, rfl, (hC.mod m1 nF).mod m2 nG, hcl, t.step p1 m1 n1 p2 m2 n2 hi hn hb hk, fun hf => ?_, fun hg => ?_, hgb⟩
  · rcases n1 _ hf.1 with h1 | h1
    · exact nF h1
    · omega
  · rcases n2 _ hg.1 with h1 | h1
    · exact nG h1
    · have := m1.size; omega

set_option maxRecDepth 100000 in
set_option maxHeartbeats 6400000 in
theorem in_range (b : Int) (a1 : Option Addr) (len1 cap1 : Nat) (c m : Int) (w : World) (w1 : OpRow w a1 len1 cap1) (b0 : 0 ≤ b) (b1 : b ≤ 1099511627776) (c0 : 0 ≤ c) (c1 : c ≤ 1099511627776) :
    Calls Try.prog 6 #[.int .i64 b, .slice a1 len1 cap1, .int .i64 c, .int .i64 m] w fun e w' => e = .returned (.bool true) ∧ Below w.heap.size w w' := by
  have hm1 := w1.1
  unfold maxLen at hm1
  have W1 := Lib.hid w1
  clear w1
  go_enter Try.func6, Try.ntmps6
  go_wp2_with fail
  refine (begun_any _).mono ?_
  rintro e wb ⟨rfl, hb⟩
  have HB := Lib.hid hb
  clear hb
  go_wp2_with fail
  refine (new_any _ _).mono ?_
  rintro e wp ⟨rfl, p1, m1⟩
  have P1 := Lib.hid p1
  have M1 := Lib.hid m1
  clear p1 m1
  go_wp2_with fail
  have hst : St w wb.heap.size wp.heap.size b (wp.alloc (.cells #[.slice none 0 0, .int .i64 b, .int .i64 0, .int .i64 0, .int .i64 0] 35)) ⟨b, [], false, 0, 0, 0⟩ (fun k => k = wb.heap.size) (fun k => k = wp.heap.size) := by
    have hlt : wb.heap.size < wp.heap.size := by obtain ⟨_, _, h, _⟩ := P1.out; exact h.2.2
    have hsz := HB.out.size
    refine ⟨P1.out.mod ((Mod.refl (fun _ => False) _).alloc _) (by simp), ⟨none, 0, Cells.new wp _ _, Own.nil _ _, by simp [blk], by simp, rfl, by simp [blk]⟩, ⟨fun h => by simp at h, fun _ => ⟨rfl, rfl, rfl⟩, by simp⟩, ⟨b0, Int.le_refl _⟩, ⟨Int.le_refl 0, (by decide : (0 : Int) ≤ 1099511627776)⟩, by simp, ?_, ?_, ?_, ?_⟩
    · rintro q rfl; omega
    · rintro q rfl; simp; omega
    · rintro q rfl; simp; omega
    · exact (Mod.below HB.out M1.out (by simp)).alloc (by omega) _
  have HST := Lib.hid hst
  clear hst P1 M1 HB
  generalize wb.heap.size = g at *
  generalize wp.heap.size = h at *
  go_loopg [12, 13] len1 (fun q i _ wr => ∃ (k : Nat) (s : Pf) (F G : Nat → Prop), k ≤ len1 ∧ k ≤ 90 ∧ i = .int .i64 k ∧ St w g h (b + k) wr s F G ∧ q + k = len1)
  case atStart => exact ⟨0, _, _, _, by omega, by omega, rfl, by simpa using HST.out, by omega⟩
  case round =>
    obtain ⟨k, s, F, G, hk, hk90, rfl, hS, hq⟩ := hrel
    clear HST
    have HS := Lib.hid hS
    clear hS
    by_cases hin : k < len1 ∧ k < 90
    · obtain ⟨hlt, h90⟩ := hin
      obtain ⟨bl, o, cs, rfl, hbl, hlen, hcell, kd, cm, nm, ck, rfl⟩ := (W1.out.below HS.out.bel (Nat.le_refl _)).2 k hlt
      have q0 := hcell 0 _ rfl
      have q1 := hcell 1 _ rfl
      have q2 := hcell 2 _ rfl
      have q3 := hcell 3 _ rfl
      rw [Nat.add_zero] at q0
      clear hcell hlen
      go_upto_region 12 with (fail)
      go_cut [13, 57] (fun s13 s57 wx => s13 = .pointer (some ⟨wr.heap.size, 0, none⟩) ∧ s57 = .bool (!decide (0 ≤ ck ∧ ck ≤ 1099511627776)) ∧ (wr.alloc (.cells #[.int .i64 kd, .int .i64 cm, .int .i64 nm, .int .i64 ck] 37)) = wx)
      case first =>
        rcases (show (0 ≤ ck ∧ ck ≤ 1099511627776) ∨ ck < 0 ∨ (0 ≤ ck ∧ 1099511627776 < ck) by omega) with ⟨k1, k2⟩ | k1 | ⟨k1, k2⟩
        · have e1 : decide (0 ≤ ck ∧ ck ≤ 1099511627776) = true := by simp; omega
          have E1 := Lib.hid e1
          clear e1
          have k3 : decide (1099511627776 < ck) = false := by simp; omega
          go_wp2_with fail
          go_meet
          exact ⟨rfl, by rw [E1.out]; first | rfl | (simp; omega), rfl⟩
        · have e1 : decide (0 ≤ ck ∧ ck ≤ 1099511627776) = false := by simp; omega
          have E1 := Lib.hid e1
          clear e1
          go_wp2_with fail
          go_meet
          exact ⟨rfl, by rw [E1.out]; first | rfl | (simp; omega), rfl⟩
        · have e1 : decide (0 ≤ ck ∧ ck ≤ 1099511627776) = false := by simp; omega
          have E1 := Lib.hid e1
          clear e1
          have k3 : decide (1099511627776 < ck) = true := by simp; omega
          go_wp2_with fail
          go_meet
          exact ⟨rfl, by rw [E1.out]; first | rfl | (simp; omega), rfl⟩
      case rest =>
        obtain ⟨rfl, h57, rfl⟩ := hcut
        have H57 := Lib.hid h57
        clear h57
        go_upto_if 57 with (fail)
        go_cut [13] (fun s13 wx => Mid w g h (b + k) kd cm nm s13 wx)
        case first =>
          by_cases hck : 0 ≤ ck ∧ ck ≤ 1099511627776
          · have e1 : decide (0 ≤ ck ∧ ck ≤ 1099511627776) = true := by simpa using hck
            have hx := H57.out
            rw [e1] at hx
            obtain rfl := hx
            have hmid := Lib.hid (mid_mk HS.out kd cm nm ck hck 37)
            clear e1 hck H57
            go_wp2_with fail
            go_meet
            exact hmid.out
          · have e1 : decide (0 ≤ ck ∧ ck ≤ 1099511627776) = false := by simpa using hck
            have hx := H57.out
            rw [e1] at hx
            obtain rfl := hx
            have hmid := Lib.hid (mid_mk HS.out kd cm nm 3 (by omega) 37)
            clear e1 hck H57
            go_wp2_with fail
            go_meet
            exact hmid.out
        case rest =>
          clear HS H57 q0 q1 q2 q3
          obtain ⟨gb, cl, s, F, G, rfl, hC, hcl, hS, nF, nG, hgb⟩ := hcut
          have HC := Lib.hid hC
          have HS := Lib.hid hS
          have NF := Lib.hid nF
          have NG := Lib.hid nG
          clear hC hS nF nG
          have hnum : 0 ≤ s.num ∧ s.num ≤ 4398046511104 := by have := HS.out.num; omega
          have HNum := Lib.hid hnum
          clear hnum
          have d0 : wc.cell? ⟨gb, 0, none⟩ = some (.int .i64 kd) := HC.out.1 0 _ rfl
          have d1 : wc.cell? ⟨gb, 1, none⟩ = some (.int .i64 cm) := HC.out.1 1 _ rfl
          have d2 : wc.cell? ⟨gb, 2, none⟩ = some (.int .i64 nm) := HC.out.1 2 _ rfl
          have d3 : wc.cell? ⟨gb, 3, none⟩ = some (.int .i64 cl) := HC.out.1 3 _ rfl
          go_upto_block 2 with (fail)
          go_cut [13] (fun s13 wx => Mid w g h (b + k + 1) kd cm nm s13 wx)
          case first =>
            by_cases k0 : kd = 0
            · have e0 : (kd == 0) = true := by simpa using k0
              clear k0
              go_wp2_with fail
              go_region_held3 (fun w' => w'.cell? ⟨gb, 3, none⟩ = some (.int .i64 cl)) (go_keep)
                (first
                  | (go_at_call 11; refine (ask_any g F s cl _ (by exact HS.out.p) HNum.out.1 HNum.out.2).mono ?_; rintro e x1 ⟨rfl, F1, p1, m1, n1⟩; have z1 : x1.cell? ⟨gb, 3, none⟩ = some (.int .i64 cl) := (undrew m1).cell d3 NF.out; have M1 := Lib.hid (undrew m1); have P1 := Lib.hid p1; have N1 := Lib.hid n1; clear m1 p1 n1)
                  | (go_at_call 14; refine (rask_any h G s cl _ (HS.out.r.mod M1.out fun q hg hf => HS.out.dis q hf hg) HNum.out.1 HNum.out.2).mono ?_; rintro e x2 ⟨rfl, G2, p2, m2, n2⟩; have z2 : x2.cell? ⟨gb, 3, none⟩ = some (.int .i64 cl) := m2.cell z1 NG.out; have M2 := Lib.hid m2; have P2 := Lib.hid p2; have N2 := Lib.hid n2; clear m2 p2 n2))
              go_wp2_with fail
              go_meet
              exact mid_step HS.out HC.out hcl NF.out NG.out hgb P1.out M1.out N1.out P2.out M2.out N2.out (inv_ask HS.out.inv HNum.out.1 cl) (by have := HS.out.num; show 0 ≤ s.num + 1 ∧ s.num + 1 ≤ _; omega) HS.out.bc (ck_ask HS.out.ck hcl)
            · have e0 : (kd == 0) = false := by simpa using k0
              clear k0
              by_cases k1 : kd = 1
              · have e1 : (kd == 1) = true := by simpa using k1
                clear k1
                have hgk := Lib.hid (get_keeps HS.out.inv HS.out.bc HS.out.ck nm cm)
                have hgp := Lib.hid (get_any g F s nm cm)
                have hgr := Lib.hid (rget_any h G s HS.out.inv nm cm)
                generalize s.get nm cm = r at *
                obtain ⟨s', v⟩ := r
                have hvv : (v != v) = false := by simp
                go_wp2_with fail
                go_region_held3 (fun w' => w'.cell? ⟨gb, 2, none⟩ = some (.int .i64 nm) ∧ w'.cell? ⟨gb, 1, none⟩ = some (.int .i64 cm)) (go_keep)
                  (first
                    | (go_at_call 12; refine (hgp.out _ (by exact HS.out.p)).mono ?_; rintro e x1 ⟨rfl, p1, m1⟩; have z1 : x1.cell? ⟨gb, 2, none⟩ = some (.int .i64 nm) := (undrew m1).cell d2 NF.out; have y1 : x1.cell? ⟨gb, 1, none⟩ = some (.int .i64 cm) := (undrew m1).cell d1 NF.out; have M1 := Lib.hid (undrew m1); have P1 := Lib.hid p1; clear m1 p1)
                    | (go_at_call 15; refine (hgr.out _ (HS.out.r.mod M1.out fun q hg hf => HS.out.dis q hf hg)).mono ?_; rintro e x2 ⟨rfl, p2, m2⟩; have z2 : x2.cell? ⟨gb, 2, none⟩ = some (.int .i64 nm) := m2.cell z1 NG.out; have y2 : x2.cell? ⟨gb, 1, none⟩ = some (.int .i64 cm) := m2.cell y1 NG.out; have M2 := Lib.hid m2; have P2 := Lib.hid p2; clear m2 p2))
                go_wp2_with fail
                go_meet
                exact mid_step HS.out HC.out hcl NF.out NG.out hgb P1.out M1.out (fun k hk => .inl hk) P2.out M2.out (fun k hk => .inl hk) hgk.out.1 (by have := HS.out.num; have h2 : s'.num = s.num := hgk.out.2.1; show 0 ≤ s'.num ∧ s'.num ≤ _; omega) hgk.out.2.2.1 hgk.out.2.2.2
              · have e1 : (kd == 1) = false := by simpa using k1
                clear k1
                go_wp2_with fail
                refine (drop_any g F s _ HS.out.p).mono ?_
                rintro e x1 ⟨rfl, p1, m1⟩
                have M1 := Lib.hid m1
                have P1 := Lib.hid p1
                clear m1 p1
                go_wp2_with fail
                refine (rdrop_any h G s _ (HS.out.r.mod M1.out fun q hg hf => HS.out.dis q hf hg)).mono ?_
                rintro e x2 ⟨rfl, p2, m2⟩
                have M2 := Lib.hid m2
                have P2 := Lib.hid p2
                clear m2 p2
                go_wp2_with fail
                go_meet
                exact mid_step HS.out HC.out hcl NF.out NG.out hgb P1.out M1.out (fun k hk => .inl hk) P2.out M2.out (fun k hk => .inl hk) (inv_drop s) (by have := HS.out.num; show 0 ≤ s.num ∧ s.num ≤ _; omega) ⟨Int.le_refl 0, (by decide : (0 : Int) ≤ 1099511627776)⟩ (by simp [Pf.drop])
          case rest =>
            clear HC HS NF NG HNum d0 d1 d2 d3 hcl hgb
            rename_i wy _
            obtain ⟨gb, cl, s, F, G, rfl, hC, hcl, hS, nF, nG, hgb⟩ := hcut
            have d1 : wc.cell? ⟨gb, 1, none⟩ = some (.int .i64 cm) := hC.1 1 _ rfl
            have d3 : wc.cell? ⟨gb, 3, none⟩ = some (.int .i64 cl) := hC.1 3 _ rfl
            have HS := Lib.hid hS
            have b41 : (4398046511104 : Int) = 4398046511104 := rfl
            clear b41
            have cq1 : ∀ n : Nat, Calls Try.prog 18 #[.pointer (some ⟨g, 0, none⟩), .int .i64 c, .int .i64 m] (wc.drewN n) fun e w' => e = .returned (.int .i64 (s.left c m)) ∧ w' = wc.drewN n := fun n =>
              (left_any g F s c m _ (by exact hS.p) c0 (by omega) hS.bc.1 (by have := hS.bc.2; omega)).mono fun _ _ ⟨h1, h2⟩ => ⟨h1, h2.symm⟩
            have cq2 : ∀ n : Nat, Calls Try.prog 19 #[.pointer (some ⟨h, 0, none⟩), .int .i64 c, .int .i64 m] (wc.drewN n) fun e w' => e = .returned (.int .i64 (s.left c m)) ∧ w' = wc.drewN n := fun n =>
              (rleft_any h G s hS.inv c m _ (by exact hS.r) c0 (by omega) hS.bc.1 (by have := hS.bc.2; omega)).mono fun _ _ ⟨h1, h2⟩ => ⟨h1, h2.symm⟩
            have cq3 : ∀ n : Nat, Calls Try.prog 13 #[.pointer (some ⟨g, 0, none⟩), .int .i64 cl, .int .i64 cm] (wc.drewN n) fun e w' => e = .returned (.bool (decide (0 < s.left cl cm))) ∧ w' = wc.drewN n := fun n =>
              (good_eq g F s cl cm _ _ (by exact hS.p) rfl hcl.1 (by omega) hS.bc.1 (by have := hS.bc.2; omega)).mono fun _ _ ⟨h1, h2⟩ => ⟨h1, h2.symm⟩
            have cq4 : ∀ n : Nat, Calls Try.prog 19 #[.pointer (some ⟨h, 0, none⟩), .int .i64 cl, .int .i64 cm] (wc.drewN n) fun e w' => e = .returned (.int .i64 (s.left cl cm)) ∧ w' = wc.drewN n := fun n =>
              (rleft_any h G s hS.inv cl cm _ (by exact hS.r) hcl.1 (by omega) hS.bc.1 (by have := hS.bc.2; omega)).mono fun _ _ ⟨h1, h2⟩ => ⟨h1, h2.symm⟩
            generalize s.left c m = L1 at *
            generalize s.left cl cm = L2 at *
            have CQ1 := Lib.hid cq1
            have CQ2 := Lib.hid cq2
            have CQ3 := Lib.hid cq3
            have CQ4 := Lib.hid cq4
            have hl : (L1 != L1) = false := by simp
            have hl2 : (decide (0 < L2) != decide (0 < L2)) = false := by simp
            clear cq1 cq2 cq3 cq4 hS hC nF nG
            go_wp2_with fail
            go_quiet ((first | (go_at_call_of 18 (Value.int IntKind.i64 c); exact Calls.quiet_of_same (CQ1.out _)) | (go_at_call_of 19 (Value.int IntKind.i64 c); exact Calls.quiet_of_same (CQ2.out _)) | (go_at_call 13; exact Calls.quiet_of_same (CQ3.out _)) | (go_at_call_of 19 (Value.int IntKind.i64 cl); exact Calls.quiet_of_same (CQ4.out _))))
            go_wp2_with fail
            go_roundg (gk - 1)
            case measure => omega
            case rel =>
              refine ⟨k + 1, s, F, G, by omega, by omega, by go_num, ?_, by omega⟩
              have h1 := HS.out.mod (D := fun _ => False) ((Mod.refl _ _).drewN nq) (by simp) (by simp) (by simp)
              rw [show b + ((k + 1 : Nat) : Int) = b + k + 1 by omega]
              exact h1
    · have hout : (k < len1 ∧ 90 ≤ k) ∨ len1 ≤ k := by omega
      clear hin
      rcases hout with ⟨hlt, hx⟩ | hlt
      all_goals
        go_wp2_with fail
        go_ret
        exact ⟨rfl, HS.out.bel⟩

set_option maxHeartbeats 3200000 in
theorem walk (a0 : Int) (a1 : Option Addr) (len1 cap1 : Nat) (a2 : Int) (a3 : Int) (w : World) (w0 : (Lit.int .i64 a0).wf = true) (w1 : OpRow w a1 len1 cap1) (w2 : (Lit.int .i64 a2).wf = true) (w3 : (Lit.int .i64 a3).wf = true) :
    Calls Try.prog 6 #[.int .i64 a0, .slice a1 len1 cap1, .int .i64 a2, .int .i64 a3] w fun e w' => e = .returned (.bool true) ∧ Below w.heap.size w w' := by
  clear w0 w2 w3
  rcases (show (0 ≤ a0 ∧ a0 ≤ 1099511627776 ∧ 0 ≤ a2 ∧ a2 ≤ 1099511627776) ∨ a0 < 0 ∨ (0 ≤ a0 ∧ 1099511627776 < a0) ∨ (0 ≤ a0 ∧ a0 ≤ 1099511627776 ∧ a2 < 0) ∨ (0 ≤ a0 ∧ a0 ≤ 1099511627776 ∧ 0 ≤ a2 ∧ 1099511627776 < a2) by omega) with ⟨h1, h2, h3, h4⟩ | h | ⟨h1, h2⟩ | ⟨h1, h2, h3⟩ | ⟨h1, h2, h3, h4⟩
  · exact in_range a0 a1 len1 cap1 a2 a3 w w1 h1 h2 h3 h4
  all_goals
    clear w1
    go_enter Try.func6, Try.ntmps6
    go_wp2_with (go_at_call 9; refine (begun_any _).mono ?_; rintro e wb ⟨rfl, hb1⟩)
    go_ret
    exact ⟨rfl, hb1⟩
/-! ### the row's step -/
theorem own : ownKnob Try.prog.godebug = none := by kernel_rfl
theorem laidOut : laidOutB Try.prog = true := by kernel_rfl
set_option maxRecDepth 100000 in
theorem lifted (os : Os) (started : os.Started) (H : Type) (enc : TypeId × Value → H) :
    ReturnsInHanded {} Try.checked os 6 .any (Rows.proofAllSpec.pre6 enc Try.prog Try.f6 Rows.proofAllRow.domain false) (Rows.proofAllSpec.post enc Try.prog Try.f6 false true false false) := by
  refine returnsInHanded_of_change (C := Try.checked) own started (by kernel_rfl) Try.func6
    (ChangeSpec.witness6 (enc := enc) (C := Try.checked) false ⟨#[], #[.int .i64 0, .slice none 0 0, .int .i64 0, .int .i64 0], []⟩ 8 (by kernel_rfl) (by kernel_rfl) (by kernel_rfl) (by kernel_rfl)) ?_
  intro W base args ds gs before hval0 hW hcnd _
  have hval : ∀ (j : Nat) t v, Try.f6.params[j]? = some t → args[j]? = some v → Value.okWide Try.prog W .any base t v := hval0
  have hW' := hW
  obtain ⟨p, q, hA0, hV, rfl, hfz, hnd⟩ := hW
  have hA : DataW.TrodAll enc Try.prog W 0 (fun _ => true) true Try.f6.params.toList args.toList ds p := hA0
  rw [Try.params6] at hA hval
  obtain ⟨v0, vs0, d0, ds0, p0, q0, hargs, rfl, rfl, h0, r0⟩ := trodAll_cons hA
  obtain ⟨v1, vs1, d1, ds1, p1, q1, rfl, rfl, rfl, h1, r1⟩ := trodAll_cons r0
  obtain ⟨v2, vs2, d2, ds2, p2, q2, rfl, rfl, rfl, h2, r2⟩ := trodAll_cons r1
  obtain ⟨v3, vs3, d3, ds3, p3, q3, rfl, rfl, rfl, h3, r3⟩ := trodAll_cons r2
  obtain ⟨rfl, rfl, rfl⟩ := trodAll_nil r3
  obtain rfl : args = #[v0, v1, v2, v3] := by cases args; simp_all
  obtain ⟨rfl, rfl⟩ := trodVars_none hV
  have k0 := h0
  have lt0 : ∀ x ∈ p0, x.block < W.heap.size := by obtain ⟨m, hm⟩ := k0; exact DataW.trod_lt m _ _ _ hm
  have k1 := h1
  have lt1 : ∀ x ∈ p1, x.block < W.heap.size := by obtain ⟨m, hm⟩ := k1; exact DataW.trod_lt m _ _ _ hm
  have k2 := h2
  have lt2 : ∀ x ∈ p2, x.block < W.heap.size := by obtain ⟨m, hm⟩ := k2; exact DataW.trod_lt m _ _ _ hm
  have k3 := h3
  have lt3 : ∀ x ∈ p3, x.block < W.heap.size := by obtain ⟨m, hm⟩ := k3; exact DataW.trod_lt m _ _ _ hm
  obtain ⟨a0, rfl, rfl, rfl, w0⟩ := open_int Try.underlying2 (hval 0 2 v0 rfl rfl) h0
  obtain ⟨a1, len1, cap1, rfl⟩ := okWide_slice Try.underlying31 (hval 1 31 v1 rfl rfl)
  have w1 : OpRow W a1 len1 cap1 := OpRow.open_ h1
  obtain ⟨a2, rfl, rfl, rfl, w2⟩ := open_int Try.underlying2 (hval 2 2 v2 rfl rfl) h2
  obtain ⟨a3, rfl, rfl, rfl, w3⟩ := open_int Try.underlying3 (hval 3 3 v3 rfl rfl) h3
  clear hA0 hval0
  refine (walk a0 a1 len1 cap1 a2 a3 W w0 w1 w2 w3).mono fun e W' ⟨he, bel⟩ => ?_
  subst he
  exact ⟨_, rfl, _, _, _, [], _, [], hW', trodAll_mk1 (shut_bool Try.underlying4 _), (trodAll_cons_mk (Below.trod laidOut (by kernel_rfl) (of_decide_eq_true (by kernel_rfl)) k0 bel lt0) (trodAll_cons_mk (Below.trod laidOut (by kernel_rfl) (of_decide_eq_true (by kernel_rfl)) k1 bel lt1) (trodAll_cons_mk (Below.trod laidOut (by kernel_rfl) (of_decide_eq_true (by kernel_rfl)) k2 bel lt2) (trodAll_cons_mk (Below.trod laidOut (by kernel_rfl) (of_decide_eq_true (by kernel_rfl)) k3 bel lt3) trodAll_mk0)))), rfl, bel.frame _, fun h => by cases h⟩

theorem over : Rows.proofAllRow.holds Try.pinned (OpenSpec.ofChange Rows.proofAllSpec) :=
  OpenClaim.holds_of_wide 6 Try.f6 rfl rfl rfl rfl rfl rfl rfl ⟨rfl, rfl, rfl, rfl, rfl⟩ rfl rfl rfl rfl rfl (by kernel_rfl) Try.func6 (by kernel_rfl)
    (of_decide_eq_true (by kernel_rfl)) (by unfold Func.isWrapper; first | (rw [if_pos (by decide +kernel)]; kernel_rfl) | (rw [if_neg (by decide +kernel)]; exact ⟨rfl, rfl⟩))
    (fun os started H enc _ => lifted os started H enc)

theorem proved : Rows.ProofAllSaid := over
#print axioms proved
end Go.Proofs.Ytlddijiljkmbmaa.proofAll
