/- For the laws of ready: no queue; the script's operations; a queue beside a log. -/
import Derived.Test.YtcjnmiopklkifaaReadyB
import Derived.Test.YtcjnmiopklkifaaReadyR
import Derived.Test.YtcjnmiopklkifaaRowsD
namespace Go.Proofs.Ytcjnmiopklkifaa
open Go.ChangeShapes Go.WideShapes Go.ChangeAt Go.RowKit
attribute [local go_sem ↓] Go.wp_at_zero Go.wp_at_succ
set_option linter.unusedVariables false
set_option linter.unusedSimpArgs false

theorem go_nil (L : Option Addr) (n cl : Nat) (c now : Int) (w : World) : Calls Try.prog 17 #[.pointer none, .slice L n cl, .int .i64 c, .int .i64 now] w fun e w' => e = .returned (.slice none 0 0) ∧ w = w' := by
  go_enter Try.func17, Try.ntmps17
  go_wp2_with fail
  go_ret
  exact ⟨rfl, rfl⟩

/-! ### the script's operations -/
structure Op3 where
  ln : Int
  cm : Int
  nw : Int
def Op3.cells (o : Op3) : List Value := [.int .i64 o.ln, .int .i64 o.cm, .int .i64 o.nw]
theorem Op3.cells_len (o : Op3) : o.cells.length = 3 := rfl
def Op3.Ok (o : Op3) : Prop := (-9223372036854775808 ≤ o.ln ∧ o.ln ≤ 9223372036854775807) ∧ (-9223372036854775808 ≤ o.cm ∧ o.cm ≤ 9223372036854775807) ∧ (-9223372036854775808 ≤ o.nw ∧ o.nw ≤ 9223372036854775807)
def ocells (l : List Op3) : List Value := l.flatMap Op3.cells
theorem ocells_at (l : List Op3) {i j : Nat} (hi : i < l.length) (hj : j < 3) : (ocells l)[i * 3 + j]? = l[i].cells[j]? := cl_at Op3.cells_len l hi hj
theorem Sl.op {w : World} {A : Option Addr} {n : Nat} {l : List Op3} (h : Sl w 3 A n (ocells l)) {k : Nat} (hk : k < l.length) : ∃ g o, A = some ⟨g, o, none⟩ ∧ g < w.heap.size ∧
    w.cell? ⟨g, o + k * 3, none⟩ = some (.int .i64 l[k].ln) ∧ w.cell? ⟨g, o + k * 3 + 1, none⟩ = some (.int .i64 l[k].cm) ∧ w.cell? ⟨g, o + k * 3 + 2, none⟩ = some (.int .i64 l[k].nw) := by
  have hn : 0 < n := by have h1 := h.1; unfold ocells at h1; rw [cl_len Op3.cells_len] at h1; omega
  obtain ⟨g, o, rfl, hl, hx⟩ := h.at_ hn
  refine ⟨g, o, rfl, hl, ?_, ?_, ?_⟩
  · exact hx (k * 3 + 0) _ ((ocells_at l hk (by omega)).trans rfl)
  all_goals rw [Nat.add_assoc]; exact hx _ _ ((ocells_at l hk (by omega)).trans rfl)
instance : Nonempty Op3 := ⟨⟨0, 0, 0⟩⟩
theorem encOp : Try.prog.cellsOf 34 = 3 := by kernel_rfl
theorem isOp_of {H : Type} {enc : TypeId × Value → H} {w : World} {base : Nat} {spare : Nat → Bool} {held : Bool} (n : Nat) (cs : List Value) (x : DataW H × List MemPlace)
    (h : DataW.trod enc Try.prog w base spare held n 34 cs = some x) : ∃ o : Op3, cs = o.cells ∧ o.Ok := by
  obtain ⟨xs, m, _, hx, hl, hlen, hf⟩ := DataW.trod_struct Try.underlying34 h
  have hl3 : cs.length = 3 := hl.trans encOp
  match cs, hl3 with
  | [v0, v1, v2], _ =>
    match xs, hlen with
    | [y0, y1, y2], _ =>
      have t0 : DataW.trod enc Try.prog w base spare held m 3 (([v0, v1, v2].drop 0).take (Try.prog.cellsOf 3)) = some y0 := hf 0 _ rfl
      have t1 : DataW.trod enc Try.prog w base spare held m 3 (([v0, v1, v2].drop 1).take (Try.prog.cellsOf 3)) = some y1 := hf 1 _ rfl
      have t2 : DataW.trod enc Try.prog w base spare held m 2 (([v0, v1, v2].drop 2).take (Try.prog.cellsOf 2)) = some y2 := hf 2 _ rfl
      rw [enc1] at t0 t1
      rw [enc2] at t2
      obtain ⟨n0, e0, -, w0⟩ := DataW.trod_int Try.underlying3 t0
      obtain ⟨n1, e1, -, w1⟩ := DataW.trod_int Try.underlying3 t1
      obtain ⟨n2, e2, -, w2⟩ := DataW.trod_int Try.underlying2 t2
      simp at e0 e1 e2
      exact ⟨⟨n0, n1, n2⟩, by rw [e0, e1, e2]; rfl, i64_bd w0, i64_bd w1, i64_bd w2⟩
/-- a script that came in -/
def OpRow (w : World) (a : Option Addr) (len cap : Nat) : Prop := ∃ l : List Op3, l.length = len ∧ Sl w 3 a len (ocells l) ∧ ∀ o ∈ l, o.Ok
theorem OpRow.open_ {H : Type} {enc : TypeId × Value → H} {w : World} {base : Nat} {spare : Nat → Bool} {held : Bool} {a : Option Addr} {len cap : Nat} {d : DataW H} {p : List MemPlace}
    (h : DataW.Trod enc Try.prog w base spare held 23 (.slice a len cap) d p) : OpRow w a len cap :=
  SlAt.list (f := Op3.cells) (R := Op3.Ok) Op3.cells_len (by decide) (SlAt.open_ Try.underlying23 encOp (by decide) isOp_of h)

theorem Sl.takeE {w : World} {A : Option Addr} {l : List En} (h : Sl w 7 A l.length (ecells l)) {k : Nat} (hk : k ≤ l.length) : Sl w 7 A (l.take k).length (ecells (l.take k)) := by
  have := h.take hk
  rw [show (ecells l).take (k * 7) = ecells (l.take k) from cl_take En.cells_len l k] at this
  rwa [show (l.take k).length = k by simp; omega]
/-! ### a queue beside a log -/
/-- the queue g holds T, the slice L the log l; all of it lies behind w0 -/
def St (w0 : World) (g : Nat) (L : Option Addr) (cl : Nat) (l : List En) (T : List To) (wr : World) : Prop :=
  ∃ F, IsQ wr g F T ∧ Own wr 7 L l.length cl (ecells l) ∧ (∀ k, blk L = some k → ¬ F k) ∧ (∀ k, F k → w0.heap.size ≤ k) ∧ Mod (fun k => w0.heap.size ≤ k) w0 wr
theorem St.mod {w0 wr w' : World} {g : Nat} {L : Option Addr} {cl : Nat} {l : List En} {T : List To} (h : St w0 g L cl l T wr) (hm : Mod (fun _ => False) wr w') : St w0 g L cl l T w' := by
  obtain ⟨F, h1, h2, h3, h4, h5⟩ := h
  exact ⟨F, h1.none_ hm, h2.mod hm (by simp), h3, h4, h5.trans hm (by simp)⟩
def StGo (w0 : World) (g : Nat) (L : Option Addr) (cl : Nat) (l : List En) (T out : List To) (wr : World) (e : Ending) (w' : World) : Prop :=
  ∃ A c, e = .returned (.slice A out.length c) ∧ Own w' 8 A out.length c (tcells out) ∧ St w0 g L cl l (T ++ out) w' ∧ Mod (fun k => w0.heap.size ≤ k) wr w'
theorem St.go {w0 wr : World} {g : Nat} {L : Option Addr} {cl : Nat} {l : List En} {T : List To} (h : St w0 g L cl l T wr) (n : Nat) (c now : Int) (hn : n ≤ l.length) (hl : l.length ≤ 50) (hT : T.length ≤ 4000) (hok : ∀ e ∈ l, OkE e)
    (hc0 : -9223372036854775808 ≤ c) (hc1 : c ≤ 9223372036854775807) (hn0 : -9223372036854775808 ≤ now) (hn1 : now ≤ 9223372036854775807) :
    Calls Try.prog 17 #[.pointer (some ⟨g, 0, none⟩), .slice L n cl, .int .i64 c, .int .i64 now] wr (StGo w0 g L cl l T (goR T (l.take n) c now) wr) := by
  obtain ⟨F, h1, h2, h3, h4, h5⟩ := h
  have et : (l.take n).length = n := by simp; omega
  have hsl := (Sl.of_own h2).takeE (l := l) hn
  have hg := go_any g F T L (l.take n) cl c now wr h1 hsl h3 (by omega) (by rw [et]; have := h2.2.1; omega) h2.2.2.1 hT (fun e he => hok e (List.mem_of_mem_take he)) hc0 hc1 hn0 hn1
  rw [et] at hg
  refine hg.mono ?_
  rintro e w' ⟨A, c', F', rfl, a2, a3, a4, a5, a6⟩
  have s := h5.size
  refine ⟨A, c', rfl, a2, ⟨F', a3, h2.mod a4 fun k hk => h3 k hk, fun k hk hF => ?_, fun k hk => ?_, h5.trans a4 fun k hk => .inl (h4 k hk)⟩, a4.mono fun k _ hk => h4 k hk⟩
  · rcases a5 k hF with h6 | h6
    · exact h3 k hk h6
    · have := h2.lt hk; omega
  · rcases a5 k hk with h6 | h6
    · exact h4 k h6
    · omega
theorem St.has {w0 wr : World} {g : Nat} {L : Option Addr} {cl : Nat} {l : List En} {T : List To} (h : St w0 g L cl l T wr) (e : En) : Calls Try.prog 19 #[.pointer (some ⟨g, 0, none⟩), e.val] wr (Only wr (.bool (hasB T e))) := by
  obtain ⟨F, h1, _⟩ := h
  exact has_any g F T e wr h1
theorem St.told {w0 wr : World} {g : Nat} {L : Option Addr} {cl : Nat} {l : List En} {T : List To} (h : St w0 g L cl l T wr) (hT : T.length ≤ 1000) : Calls Try.prog 21 #[.pointer (some ⟨g, 0, none⟩)] wr (NewT wr T) := by
  obtain ⟨F, h1, _⟩ := h
  exact toldQ_any g F T wr h1 hT
end Go.Proofs.Ytcjnmiopklkifaa
