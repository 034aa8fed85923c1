/- Words for the walks of this seat: a slice of numbers that came in; small laws on worlds. -/
import Derived.Test.YtbladkopbkkamaaRows
import Derived.WalkKit
import Derived.WalkSpells
import Derived.WalkLawsBesides
import Derived.ProofKit
import Derived.OpenShut
import Derived.ShutString
import Derived.ChangeOld
import Derived.Below
import Derived.Deep.Slices
import Derived.Deep.Fields
import Derived.Deep.QuietTactic
import Derived.BigQuiet
import Derived.Deep.LoopGhost
import Derived.Deep.Cut
import Derived.Deep.CutRange
import Derived.Deep.DeepCutAuto
import Derived.Lib.Hide
import Derived.Outline
namespace Go.Proofs.Ytbladkopbkkamaa
open Go.ChangeShapes Go.WideShapes Go.ChangeAt Go.RowKit

/-- cells stand only in blocks that are there -/
theorem cell_lt {w : World} {a : Addr} {v : Value} (h : w.cell? a = some v) : a.block < w.heap.size := by
  rcases Nat.lt_or_ge a.block w.heap.size with hlt | hge
  · exact hlt
  · simp [World.cell?, Array.getElem?_eq_none hge] at h

/-- a slice of numbers, nil let in: len elements, z i the i-th -/
def IntsAt (k : IntKind) (w : World) (a : Option Addr) (len : Nat) (z : Nat → Int) : Prop :=
  len ≤ maxLen ∧ ∀ i, i < len → ∃ b o, a = some ⟨b, o, none⟩ ∧ b < w.heap.size ∧ w.cell? ⟨b, o + i, none⟩ = some (.int k (z i)) ∧ (Lit.int k (z i)).wf = true

theorem IntsAt.at_ {k : IntKind} {w : World} {a : Option Addr} {len : Nat} {z : Nat → Int} (h : IntsAt k w a len z) {i : Nat} (hi : i < len) :
    ∃ b o, a = some ⟨b, o, none⟩ ∧ b < w.heap.size ∧ w.cell? ⟨b, o + i, none⟩ = some (.int k (z i)) ∧ (Lit.int k (z i)).wf = true := h.2 i hi
theorem IntsAt.below {k : IntKind} {w w' : World} {a : Option Addr} {len : Nat} {z : Nat → Int} (h : IntsAt k w a len z) {B : Nat} (hb : Below B w w') (hB : w.heap.size ≤ B) : IntsAt k w' a len z := by
  refine ⟨h.1, fun i hi => ?_⟩
  obtain ⟨b, o, e, hl, hc, hw⟩ := h.2 i hi
  exact ⟨b, o, e, Nat.lt_of_lt_of_le hl hb.size, (hb.cell (p := ⟨b, o + i, none⟩) (Nat.lt_of_lt_of_le hl hB)).trans hc, hw⟩
theorem i64_bd {n : Int} (h : (Lit.int .i64 n).wf = true) : -9223372036854775808 ≤ n ∧ n ≤ 9223372036854775807 := bounds_i64 h

theorem IntsAt.open_ {H : Type} {enc : TypeId × Value → H} {P : Program} {w : World} {base : Nat} {spare : Nat → Bool} {held : Bool} {t e : TypeId} {k : IntKind} {a : Option Addr} {len cap : Nat} {d : DataW H} {p : List MemPlace}
    (ht : P.underlying t = some (.slice e)) (he : P.underlying e = some (.int k)) (hc : P.cellsOf e = 1) (h : DataW.Trod enc P w base spare held t (.slice a len cap) d p) : ∃ z, IntsAt k w a len z := by
  obtain ⟨fuel, hf⟩ := h
  rcases open_ints ht he hc hf with ⟨hcs, _⟩ | ⟨x, l, c, zs, hcs, _, hl, hm, hz, _, hcell, hwz⟩
  · simp [Value.cells] at hcs
    obtain ⟨rfl, rfl, rfl⟩ := hcs
    exact ⟨fun _ => 0, by unfold maxLen; omega, fun i hi => absurd hi (by omega)⟩
  · simp [Value.cells] at hcs
    obtain ⟨rfl, rfl, rfl⟩ := hcs
    have hlz : len ≤ zs.length := by rw [hz]; split <;> omega
    refine ⟨fun i => zs.getD i 0, by omega, fun i hi => ?_⟩
    obtain ⟨b, o, rfl, hcc⟩ := ints_at hcell (by omega)
    refine ⟨b, o, rfl, cell_lt (hcc i (by omega)), hcc i (by omega), ?_⟩
    have hg : zs.getD i 0 = zs[i]'(by omega) := by simp [List.getD, show i < zs.length by omega]
    exact hwz _ (by show zs.getD i 0 ∈ zs; rw [hg]; exact List.getElem_mem _)

/-- a slice of elements of C cells that came in, nil let in: R says what an element's cells are -/
def SlAt (w : World) (C : Nat) (R : List Value → Prop) (a : Option Addr) (len : Nat) : Prop :=
  len ≤ maxLen ∧ ∀ i, i < len → ∃ b o cs, a = some ⟨b, o, none⟩ ∧ b < w.heap.size ∧ cs.length = C ∧ (∀ j u, cs[j]? = some u → w.cell? ⟨b, o + i * C + j, none⟩ = some u) ∧ R cs
theorem SlAt.below {w w' : World} {C : Nat} {R : List Value → Prop} {a : Option Addr} {len : Nat} (h : SlAt w C R a len) {B : Nat} (hb : Below B w w') (hB : w.heap.size ≤ B) : SlAt w' C R a len := by
  refine ⟨h.1, fun i hi => ?_⟩
  obtain ⟨b, o, cs, e, hl, hc, hx, hr⟩ := h.2 i hi
  exact ⟨b, o, cs, e, Nat.lt_of_lt_of_le hl hb.size, hc, fun j u hu => (hb.cell (p := ⟨b, o + i * C + j, none⟩) (Nat.lt_of_lt_of_le hl hB)).trans (hx j u hu), hr⟩
theorem SlAt.open_ {H : Type} {enc : TypeId × Value → H} {P : Program} {w : World} {base : Nat} {spare : Nat → Bool} {held : Bool} {t e : TypeId} {C : Nat} {R : List Value → Prop} {a : Option Addr} {len cap : Nat} {d : DataW H} {p : List MemPlace}
    (ht : P.underlying t = some (.slice e)) (hc : P.cellsOf e = C) (hC : 0 < C) (hR : ∀ (n : Nat) (cs : List Value) (x : DataW H × List MemPlace), DataW.trod enc P w base spare held n e cs = some x → R cs)
    (h : DataW.Trod enc P w base spare held t (.slice a len cap) d p) : SlAt w C R a len := by
  obtain ⟨fuel, hf⟩ := h
  rcases Go.Deep.open_slice ht hf with ⟨hcs, _⟩ | ⟨x, l, c, m, n, D, Pl, hcs, hb, hl, hm, hmm, hx, hi⟩
  · simp [Value.cells] at hcs
    obtain ⟨rfl, rfl, rfl⟩ := hcs
    exact ⟨by unfold maxLen; omega, fun i hi => absurd hi (by omega)⟩
  · simp [Value.cells] at hcs
    obtain ⟨rfl, rfl, rfl⟩ := hcs
    refine ⟨by omega, fun i hil => ?_⟩
    have hlm : len ≤ m := by rw [hmm]; split <;> omega
    obtain ⟨cs, h1, h2⟩ := hi i (by omega)
    rw [hc] at h1
    obtain ⟨_, hlen, hcell⟩ := World.cells?_some h1
    obtain ⟨cs0, g1, _⟩ := hi 0 (by omega)
    rw [hc] at g1
    obtain ⟨_, hlen0, hcell0⟩ := World.cells?_some g1
    have h0 : w.cell? x = some (cs0[0]'(by omega)) := by
      have := hcell0 0 hC
      rw [List.getElem?_eq_getElem (by omega)] at this
      simpa [Addr.add] using this
    obtain ⟨b, o, spot⟩ := x
    have hspot : spot = none := by simpa using World.cell?_spot h0
    subst hspot
    have hadd : ∀ k, (⟨b, o, none⟩ : Addr).add k = ⟨b, o + k, none⟩ := fun k => Go.WideShapes.add_plain ..
    have hbl : b < w.heap.size := cell_lt h0
    refine ⟨b, o, cs, rfl, hbl, hlen, fun j u hu => ?_, hR n cs _ h2⟩
    have hj : j < C := by have := (List.getElem?_eq_some_iff.1 hu).1; omega
    have := hcell j hj
    rw [hadd, Go.WideShapes.add_plain] at this
    rw [this, hu]
end Go.Proofs.Ytbladkopbkkamaa
