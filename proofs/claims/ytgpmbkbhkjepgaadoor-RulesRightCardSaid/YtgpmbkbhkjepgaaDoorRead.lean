/-
  HOW RULES READ AS DATA: a value that reads as a rule is its seven cells; the table that the row lists lies in block 0 as the 25 standard rules. No condition.
-/
import Derived.Test.YtgpmbkbhkjepgaaDoorLawB
import Derived.Test.YtgpmbkbhkjepgaaDoorCards
import Derived.Test.YtgpmbkbhkjepgaaDoorTie
import Derived.ProofKit
import Derived.OpenShut
import Derived.Lay
import Derived.Lib.LaidU8
import Derived.Deep.Slices
import Derived.SevenTiedAt
namespace Go.Proofs.YtgpmbkbhkjepgaaDoor
open Go.ChangeShapes Go.WideShapes Go.ChangeAt Go.RowKit

theorem ownKn : ownKnob Tryd.prog.godebug = none := by kernel_rfl
theorem laidOutT : laidOutB Tryd.prog = true := by kernel_rfl
theorem cells25 : Tryd.prog.cellsOf 25 = 7 := by kernel_rfl
theorem cells9 : Tryd.prog.cellsOf 9 = 1 := by kernel_rfl
theorem cells4 : Tryd.prog.cellsOf 4 = 1 := by kernel_rfl
theorem cells3 : Tryd.prog.cellsOf 3 = 1 := by kernel_rfl
/-- The listed table's name: the second on the row's list. -/
def nStd : String := ((Rows.rulesStandardRow.laid.map (·.1))[1]?).getD default
theorem gStd : Tryd.prog.globalNamed nStd = some 0 := by kernel_rfl
theorem gStdType : (Tryd.prog.globals[0]?).map (·.type) = some 39 := by kernel_rfl

/-- A rule as data. -/
def datR {H : Type} (r : Rule) : DataW H := .agg [.lit (.string r.tag.data.toList), .lit (.bool r.rep), .lit (.bool r.must), .lit (.string r.codes.data.toList), .lit (.string r.once.data.toList), .lit (.string r.needs.data.toList), .lit (.int .i64 r.auth)]

theorem rule_of_trod {H : Type} {enc : TypeId × Value → H} {w : World} {base : Nat} {sp : Nat → Bool} {held : Bool} {fuel : Nat} {cs : List Value} {x : DataW H × List MemPlace} (h : DataW.trod enc Tryd.prog w base sp held fuel 25 cs = some x) :
    ∃ r : Rule, cs = encR r ∧ x.1 = datR r := by
  obtain ⟨xs, n, _, hx, hcl, hxl, hf⟩ := DataW.trod_struct Tryd.underlying25 h
  rw [cells25] at hcl
  match cs, hcl with
  | [c0, c1, c2, c3, c4, c5, c6], _ =>
    match xs, hxl with
    | [y0, y1, y2, y3, y4, y5, y6], _ =>
      have f0 := hf 0 _ rfl
      have f1 := hf 1 _ rfl
      have f2 := hf 2 _ rfl
      have f3 := hf 3 _ rfl
      have f4 := hf 4 _ rfl
      have f5 := hf 5 _ rfl
      have f6 := hf 6 _ rfl
      simp [cells9, cells4, cells3] at f0 f1 f2 f3 f4 f5 f6
      obtain ⟨s0, e0, rfl, _⟩ := DataW.trod_string Tryd.underlying9 f0
      obtain ⟨b1, e1, rfl⟩ := DataW.trod_bool Tryd.underlying4 f1
      obtain ⟨b2, e2, rfl⟩ := DataW.trod_bool Tryd.underlying4 f2
      obtain ⟨s3, e3, rfl, _⟩ := DataW.trod_string Tryd.underlying9 f3
      obtain ⟨s4, e4, rfl, _⟩ := DataW.trod_string Tryd.underlying9 f4
      obtain ⟨s5, e5, rfl, _⟩ := DataW.trod_string Tryd.underlying9 f5
      obtain ⟨n6, e6, rfl, _⟩ := DataW.trod_int Tryd.underlying3 f6
      simp only [List.cons.injEq, and_true] at e0 e1 e2 e3 e4 e5 e6
      subst e0 e1 e2 e3 e4 e5 e6
      exact ⟨⟨s0, b1, b2, s3, s4, s5, n6⟩, rfl, by rw [hx]; rfl⟩

theorem text_inj {a b : ByteArray} (h : a.data.toList = b.data.toList) : a = b := by
  obtain ⟨⟨a⟩⟩ := a
  obtain ⟨⟨b⟩⟩ := b
  simp only at h
  rw [h]
theorem datR_inj {r q : Rule} (h : (datR r : DataW Unit) = datR q) : r = q := by
  simp only [datR, DataW.agg.injEq, List.cons.injEq, DataW.lit.injEq, Lit.string.injEq, Lit.bool.injEq, Lit.int.injEq, and_true, true_and] at h
  obtain ⟨h0, h1, h2, h3, h4, h5, h6⟩ := h
  obtain ⟨a0, a1, a2, a3, a4, a5, a6⟩ := r
  obtain ⟨b0, b1, b2, b3, b4, b5, b6⟩ := q
  simp only at h0 h1 h2 h3 h4 h5 h6
  rw [text_inj h0, h1, h2, text_inj h3, text_inj h4, text_inj h5, h6]

theorem std_datum : (Rows.laid_library_rules_standard : DataW Unit) = .agg (stdR.map datR) := rfl

/-- The table, out of the row's list. -/
theorem table_of {W : World} (h : laidMet Tryd.prog Rows.rulesStandardRow.laid W) : RulesAt W 0 0 stdR ∧ 0 < W.heap.size := by
  obtain ⟨g, t, cs, fuel, p, hg, ht, hv, hd⟩ := Lib.laidMet.reads h (n := nStd) (d := Rows.laid_library_rules_standard) (.tail _ (.head _))
  obtain rfl := Option.some.inj (gStd.symm.trans hg)
  obtain rfl := Option.some.inj (gStdType.symm.trans ht)
  obtain ⟨xs, m, _, hx, hcl, hxl, hel⟩ := DataW.trod_array Tryd.underlying39 hd
  rw [cells25] at hel
  simp only [Prod.mk.injEq] at hx
  have hx1 : (Rows.laid_library_rules_standard : DataW Unit) = .agg (xs.map (·.1)) := hx.1
  rw [std_datum, DataW.agg.injEq] at hx1
  have hR : RulesAt W 0 0 stdR := by
    intro j hj i v hi
    have hj25 : j < 25 := hj
    have hxj : xs[j]? = some xs[j] := List.getElem?_eq_getElem (by omega)
    obtain ⟨r, hr, hr2⟩ := rule_of_trod ((hel j hj25).trans hxj)
    have e1 : (stdR.map (datR (H := Unit)))[j]? = (xs.map (·.1))[j]? := by rw [hx1]
    rw [List.getElem?_map, List.getElem?_map, hxj, List.getElem?_eq_getElem hj] at e1
    simp only [Option.map_some, Option.some.injEq] at e1
    rw [hr2] at e1
    have er : stdR[j] = r := datR_inj e1
    have er' : stdR[j]! = r := by rw [getElem!_pos stdR j hj]; exact er
    rw [er', ← hr] at hi
    have hi7 : i < 7 := by
      have := (List.getElem?_eq_some_iff.1 hi).1
      simp at this
      omega
    rw [List.getElem?_take_of_lt hi7, List.getElem?_drop] at hi
    rw [World.var?_cell gStd hv, Nat.zero_add, ← Array.getElem?_toList]
    exact hi
  refine ⟨hR, ?_⟩
  have := (hR.at_ 0 (by decide)).1
  rcases Nat.lt_or_ge 0 W.heap.size with hl | hl
  · exact hl
  · simp [World.cell?, Array.getElem?_eq_none hl] at this
end Go.Proofs.YtgpmbkbhkjepgaaDoor
