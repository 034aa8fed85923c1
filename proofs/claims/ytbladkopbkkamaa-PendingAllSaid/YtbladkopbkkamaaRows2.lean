/- Slices of entries that came in, as lists. -/
import Derived.Test.YtbladkopbkkamaaEntry
namespace Go.Proofs.Ytbladkopbkkamaa
open Go.RowKit
set_option linter.unusedVariables false
set_option linter.unusedSimpArgs false

theorem SlAt.list {α : Type} [Nonempty α] {f : α → List Value} {C : Nat} {R : α → Prop} {w : World} {a : Option Addr} {len : Nat} (hf : ∀ x, (f x).length = C) (hC : 0 < C) (h : SlAt w C (fun cs => ∃ x, cs = f x ∧ R x) a len) :
    ∃ l : List α, l.length = len ∧ Sl w C a len (l.flatMap f) ∧ ∀ x ∈ l, R x := by
  have h1 : ∀ i : Nat, ∃ x : α, i < len → (∃ b o, a = some ⟨b, o, none⟩ ∧ b < w.heap.size ∧ ∀ j u, (f x)[j]? = some u → w.cell? ⟨b, o + i * C + j, none⟩ = some u) ∧ R x := by
    intro i
    by_cases hi : i < len
    · obtain ⟨b, o, cs, e, hb, _, hx, x, rfl, hr⟩ := h.2 i hi
      exact ⟨x, fun _ => ⟨⟨b, o, e, hb, hx⟩, hr⟩⟩
    · exact ⟨Classical.choice ‹_›, fun h' => absurd h' hi⟩
  obtain ⟨g, hg⟩ := Classical.axiomOfChoice h1
  refine ⟨(List.range len).map g, by simp, ⟨by rw [cl_len hf]; simp, h.1, ?_⟩, ?_⟩
  · rcases Nat.eq_zero_or_pos len with h0 | h0
    · exact .inl h0
    · obtain ⟨⟨b, o, e, hb, _⟩, _⟩ := hg 0 h0
      refine .inr ⟨b, o, e, hb, fun j u hu => ?_⟩
      have hj := (List.getElem?_eq_some_iff.1 hu).1
      rw [cl_len hf] at hj
      simp at hj
      have hi : j / C < len := by rw [Nat.div_lt_iff_lt_mul hC]; exact hj
      have hm : j % C < C := Nat.mod_lt _ hC
      have hjj : j / C * C + j % C = j := by rw [Nat.mul_comm]; exact Nat.div_add_mod j C
      obtain ⟨⟨b', o', e', _, hx⟩, _⟩ := hg (j / C) hi
      rw [e] at e'
      injection e' with e'
      injection e' with e1 e2
      subst e1 e2
      have := cl_at hf ((List.range len).map g) (i := j / C) (j := j % C) (by simpa using hi) hm
      rw [hjj] at this
      rw [this] at hu
      simp at hu
      have := hx (j % C) u hu
      rwa [Nat.add_assoc, hjj] at this
  · intro x hx
    obtain ⟨i, hi, rfl⟩ := List.mem_map.1 hx
    exact (hg i (by simpa using hi)).2

instance : Nonempty En := ⟨⟨0, 0, 0, 0, 0, 0, ByteArray.empty⟩⟩
theorem enc1 : Try.prog.cellsOf 3 = 1 := by kernel_rfl
theorem enc2 : Try.prog.cellsOf 2 = 1 := by kernel_rfl
theorem enc3 : Try.prog.cellsOf 9 = 1 := by kernel_rfl
theorem enc7 : Try.prog.cellsOf 30 = 7 := by kernel_rfl

theorem isEn_of {H : Type} {enc : TypeId × Value → H} {w : World} {base : Nat} {spare : Nat → Bool} {held : Bool} (n : Nat) (cs : List Value) (x : DataW H × List MemPlace)
    (h : DataW.trod enc Try.prog w base spare held n 30 cs = some x) : ∃ e : En, cs = e.cells ∧ e.da.size ≤ maxLen := by
  obtain ⟨xs, m, _, hx, hl, hlen, hf⟩ := DataW.trod_struct Try.underlying30 h
  have hl7 : cs.length = 7 := hl.trans enc7
  match cs, hl7 with
  | [v0, v1, v2, v3, v4, v5, v6], _ =>
    match xs, hlen with
    | [y0, y1, y2, y3, y4, y5, y6], _ =>
      have t0 : DataW.trod enc Try.prog w base spare held m 3 (([v0, v1, v2, v3, v4, v5, v6].drop 0).take (Try.prog.cellsOf 3)) = some y0 := hf 0 _ rfl
      have t1 : DataW.trod enc Try.prog w base spare held m 2 (([v0, v1, v2, v3, v4, v5, v6].drop 1).take (Try.prog.cellsOf 2)) = some y1 := hf 1 _ rfl
      have t2 : DataW.trod enc Try.prog w base spare held m 2 (([v0, v1, v2, v3, v4, v5, v6].drop 2).take (Try.prog.cellsOf 2)) = some y2 := hf 2 _ rfl
      have t3 : DataW.trod enc Try.prog w base spare held m 3 (([v0, v1, v2, v3, v4, v5, v6].drop 3).take (Try.prog.cellsOf 3)) = some y3 := hf 3 _ rfl
      have t4 : DataW.trod enc Try.prog w base spare held m 3 (([v0, v1, v2, v3, v4, v5, v6].drop 4).take (Try.prog.cellsOf 3)) = some y4 := hf 4 _ rfl
      have t5 : DataW.trod enc Try.prog w base spare held m 2 (([v0, v1, v2, v3, v4, v5, v6].drop 5).take (Try.prog.cellsOf 2)) = some y5 := hf 5 _ rfl
      have t6 : DataW.trod enc Try.prog w base spare held m 9 (([v0, v1, v2, v3, v4, v5, v6].drop 6).take (Try.prog.cellsOf 9)) = some y6 := hf 6 _ rfl
      rw [enc1] at t0 t3 t4
      rw [enc2] at t1 t2 t5
      rw [enc3] at t6
      obtain ⟨n0, e0, -⟩ := DataW.trod_int Try.underlying3 t0
      obtain ⟨n1, e1, -⟩ := DataW.trod_int Try.underlying2 t1
      obtain ⟨n2, e2, -⟩ := DataW.trod_int Try.underlying2 t2
      obtain ⟨n3, e3, -⟩ := DataW.trod_int Try.underlying3 t3
      obtain ⟨n4, e4, -⟩ := DataW.trod_int Try.underlying3 t4
      obtain ⟨n5, e5, -⟩ := DataW.trod_int Try.underlying2 t5
      obtain ⟨n6, e6, -, h6⟩ := DataW.trod_string Try.underlying9 t6
      simp at e0 e1 e2 e3 e4 e5 e6
      exact ⟨⟨n0, n1, n2, n3, n4, n5, n6⟩, by rw [e0, e1, e2, e3, e4, e5, e6]; rfl, h6⟩

/-- a slice of entries that came in -/
def EntryRow (w : World) (a : Option Addr) (len cap : Nat) : Prop := ∃ l : List En, l.length = len ∧ Sl w 7 a len (ecells l) ∧ ∀ e ∈ l, e.da.size ≤ maxLen
theorem EntryRow.open_ {H : Type} {enc : TypeId × Value → H} {w : World} {base : Nat} {spare : Nat → Bool} {held : Bool} {a : Option Addr} {len cap : Nat} {d : DataW H} {p : List MemPlace}
    (h : DataW.Trod enc Try.prog w base spare held 23 (.slice a len cap) d p) : EntryRow w a len cap :=
  SlAt.list (f := En.cells) (R := fun e => e.da.size ≤ maxLen) En.cells_len (by decide) (SlAt.open_ Try.underlying23 enc7 (by decide) isEn_of h)
end Go.Proofs.Ytbladkopbkkamaa
