/- Slices of told entries that came in, as lists. -/
import Derived.Test.YtbladkopbkkamaaJudgeE
import Derived.Test.YtbladkopbkkamaaRows2
namespace Go.Proofs.Ytbladkopbkkamaa
open Go.RowKit
set_option linter.unusedVariables false
set_option linter.unusedSimpArgs false

instance : Nonempty To := ⟨⟨0, ⟨0, 0, 0, 0, 0, 0, ByteArray.empty⟩⟩⟩
theorem enc8 : Try.prog.cellsOf 32 = 8 := by kernel_rfl
theorem isTo_of {H : Type} {enc : TypeId × Value → H} {w : World} {base : Nat} {spare : Nat → Bool} {held : Bool} (n : Nat) (cs : List Value) (x : DataW H × List MemPlace)
    (h : DataW.trod enc Try.prog w base spare held n 32 cs = some x) : ∃ t : To, cs = t.cells ∧ t.e.da.size ≤ maxLen := by
  obtain ⟨xs, m, _, hx, hl, hlen, hf⟩ := DataW.trod_struct Try.underlying32 h
  have hl8 : cs.length = 8 := hl.trans enc8
  match cs, hl8 with
  | [v0, v1, v2, v3, v4, v5, v6, v7], _ =>
    match xs, hlen with
    | [y0, y1], _ =>
      have t0 : DataW.trod enc Try.prog w base spare held m 3 (([v0, v1, v2, v3, v4, v5, v6, v7].drop 0).take (Try.prog.cellsOf 3)) = some y0 := hf 0 _ rfl
      have t1 : DataW.trod enc Try.prog w base spare held m 30 (([v0, v1, v2, v3, v4, v5, v6, v7].drop 1).take (Try.prog.cellsOf 30)) = some y1 := hf 1 _ rfl
      rw [enc1] at t0
      rw [enc7] at t1
      obtain ⟨n0, e0, -⟩ := DataW.trod_int Try.underlying3 t0
      obtain ⟨e, e1, h1⟩ := isEn_of _ _ _ t1
      simp at e0 e1
      exact ⟨⟨n0, e⟩, by rw [e0]; show _ = Value.int .i64 n0 :: e.cells; rw [← e1], h1⟩

/-- a slice of told entries that came in -/
def ToldRow (w : World) (a : Option Addr) (len cap : Nat) : Prop := ∃ l : List To, l.length = len ∧ Sl w 8 a len (tcells l) ∧ ∀ t ∈ l, t.e.da.size ≤ maxLen
theorem ToldRow.open_ {H : Type} {enc : TypeId × Value → H} {w : World} {base : Nat} {spare : Nat → Bool} {held : Bool} {a : Option Addr} {len cap : Nat} {d : DataW H} {p : List MemPlace}
    (h : DataW.Trod enc Try.prog w base spare held 22 (.slice a len cap) d p) : ToldRow w a len cap :=
  SlAt.list (f := To.cells) (R := fun t => t.e.da.size ≤ maxLen) To.cells_len (by decide) (SlAt.open_ Try.underlying22 enc8 (by decide) isTo_of h)
end Go.Proofs.Ytbladkopbkkamaa
