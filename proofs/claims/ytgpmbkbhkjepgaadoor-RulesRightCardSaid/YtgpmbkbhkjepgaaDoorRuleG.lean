/-
  THE STANDARD RULES: the reference's Standard builds them, rules.Standard copies them off the table; each hands back a slice of its own memory that reads as the 25 rules; what lay in memory lies there still. Condition: the table lies in block 0 as its initialiser lays it.
-/
import Derived.Test.YtgpmbkbhkjepgaaDoorRuleA
import Derived.Laws.Rows
namespace Go.Proofs.YtgpmbkbhkjepgaaDoor
open Go.RowKit

/-- The standard rules. -/
def stdR : List Rule := [
  ⟨⟨#[48, 50, 48]⟩, true, false, ⟨#[97, 122]⟩, ⟨#[]⟩, ⟨#[]⟩, 0⟩,
  ⟨⟨#[48, 50, 50]⟩, true, false, ⟨#[97]⟩, ⟨#[]⟩, ⟨#[]⟩, 0⟩,
  ⟨⟨#[48, 52, 49]⟩, true, false, ⟨#[97]⟩, ⟨#[]⟩, ⟨#[]⟩, 0⟩,
  ⟨⟨#[49, 48, 48]⟩, false, false, ⟨#[52, 97, 100]⟩, ⟨#[97]⟩, ⟨#[97]⟩, 1⟩,
  ⟨⟨#[49, 49, 48]⟩, false, false, ⟨#[97, 98]⟩, ⟨#[97]⟩, ⟨#[97]⟩, 2⟩,
  ⟨⟨#[50, 52, 53]⟩, false, true, ⟨#[97, 98, 99, 110, 112]⟩, ⟨#[97, 99]⟩, ⟨#[97]⟩, 0⟩,
  ⟨⟨#[50, 52, 54]⟩, true, false, ⟨#[97, 98]⟩, ⟨#[97]⟩, ⟨#[97]⟩, 0⟩,
  ⟨⟨#[50, 53, 48]⟩, false, false, ⟨#[97, 98]⟩, ⟨#[]⟩, ⟨#[]⟩, 0⟩,
  ⟨⟨#[50, 54, 48]⟩, true, false, ⟨#[97, 98, 99]⟩, ⟨#[]⟩, ⟨#[]⟩, 0⟩,
  ⟨⟨#[50, 54, 52]⟩, true, false, ⟨#[97, 98, 99]⟩, ⟨#[]⟩, ⟨#[]⟩, 0⟩,
  ⟨⟨#[51, 48, 48]⟩, true, false, ⟨#[97, 98, 99]⟩, ⟨#[]⟩, ⟨#[]⟩, 0⟩,
  ⟨⟨#[52, 52, 48]⟩, true, false, ⟨#[97, 118]⟩, ⟨#[97]⟩, ⟨#[97]⟩, 4⟩,
  ⟨⟨#[52, 57, 48]⟩, true, false, ⟨#[97, 118]⟩, ⟨#[97]⟩, ⟨#[97]⟩, 0⟩,
  ⟨⟨#[53, 48, 48]⟩, true, false, ⟨#[97]⟩, ⟨#[97]⟩, ⟨#[97]⟩, 0⟩,
  ⟨⟨#[53, 50, 48]⟩, true, false, ⟨#[97]⟩, ⟨#[]⟩, ⟨#[]⟩, 0⟩,
  ⟨⟨#[54, 48, 48]⟩, true, false, ⟨#[97, 100, 120, 121, 122]⟩, ⟨#[97]⟩, ⟨#[97]⟩, 1⟩,
  ⟨⟨#[54, 49, 48]⟩, true, false, ⟨#[97, 98, 120, 121, 122]⟩, ⟨#[97]⟩, ⟨#[97]⟩, 2⟩,
  ⟨⟨#[54, 53, 48]⟩, true, false, ⟨#[97, 120, 121, 122]⟩, ⟨#[97]⟩, ⟨#[97]⟩, 3⟩,
  ⟨⟨#[54, 53, 49]⟩, true, false, ⟨#[97, 120, 121, 122]⟩, ⟨#[97]⟩, ⟨#[97]⟩, 3⟩,
  ⟨⟨#[55, 48, 48]⟩, true, false, ⟨#[52, 97, 100]⟩, ⟨#[97]⟩, ⟨#[97]⟩, 1⟩,
  ⟨⟨#[55, 49, 48]⟩, true, false, ⟨#[97, 98]⟩, ⟨#[97]⟩, ⟨#[97]⟩, 2⟩,
  ⟨⟨#[55, 55, 54]⟩, true, false, ⟨#[116, 119]⟩, ⟨#[]⟩, ⟨#[]⟩, 0⟩,
  ⟨⟨#[55, 56, 55]⟩, true, false, ⟨#[116, 119]⟩, ⟨#[]⟩, ⟨#[]⟩, 0⟩,
  ⟨⟨#[56, 51, 48]⟩, true, false, ⟨#[97, 118]⟩, ⟨#[97]⟩, ⟨#[97]⟩, 4⟩,
  ⟨⟨#[56, 53, 54]⟩, true, false, ⟨#[117, 122]⟩, ⟨#[]⟩, ⟨#[]⟩, 0⟩]
theorem std_len : stdR.length = 25 := rfl

theorem flat_get : ∀ (rs : List Rule) (j i : Nat), j < rs.length → i < 7 → (rs.flatMap encR)[j * 7 + i]? = (encR rs[j]!)[i]?
  | [], j, _, hj, _ => absurd hj (Nat.not_lt_zero _)
  | r :: l, 0, i, _, hi => by
    rw [List.flatMap_cons, Nat.zero_mul, Nat.zero_add, List.getElem?_append_left (by rw [encR_len]; exact hi)]
    rfl
  | r :: l, j + 1, i, hj, hi => by
    rw [List.flatMap_cons, List.getElem?_append_right (by rw [encR_len]; omega), encR_len, show (j + 1) * 7 + i - 7 = j * 7 + i by omega, flat_get l j i (by simpa using hj) hi]
    simp
/-- Cells that lie one behind the other hold the rules. -/
theorem rulesAt_of_flat {w : World} {b off : Nat} {rs : List Rule} (h : ∀ j u, (rs.flatMap encR)[j]? = some u → w.cell? ⟨b, off + j, none⟩ = some u) : RulesAt w b off rs := fun j hj i v hi => by
  have h7 : i < 7 := by
    have := (List.getElem?_eq_some_iff.1 hi).1
    rwa [encR_len] at this
  rw [Nat.add_assoc]
  exact h (j * 7 + i) v (by rw [flat_get rs j i hj h7]; exact hi)
theorem flat_of_rulesAt {w : World} {b off : Nat} {rs : List Rule} (h : RulesAt w b off rs) (j : Nat) (u : Value) (hu : (rs.flatMap encR)[j]? = some u) : w.cell? ⟨b, off + j, none⟩ = some u := by
  have hl : (rs.flatMap encR).length = rs.length * 7 := by
    clear hu h
    induction rs with
    | nil => rfl
    | cons r l ih => rw [List.flatMap_cons, List.length_append, ih, encR_len, List.length_cons]; omega
  have hj : j < rs.length * 7 := by
    have := (List.getElem?_eq_some_iff.1 hu).1
    rwa [hl] at this
  have e : j = j / 7 * 7 + j % 7 := by omega
  have hq : j / 7 < rs.length := by omega
  rw [e, flat_get rs _ _ hq (by omega)] at hu
  have := h (j / 7) hq (j % 7) u hu
  rw [Nat.add_assoc, ← e] at this
  exact this

set_option maxHeartbeats 400000 in
theorem rule_any (B : Nat) (w0 w : World) (hB : Below B w0 w) (hs : B ≤ w0.heap.size) (t c o n : ByteArray) (r m : Bool) (a : Int) :
    Calls Tryd.prog 17 #[.string t, .bool r, .bool m, .string c, .string o, .string n, .int .i64 a] w fun e w' => e = .returned (.agg #[.string t, .bool r, .bool m, .string c, .string o, .string n, .int .i64 a]) ∧ Below B w0 w' := by
  have HB := Lib.hid hB
  clear hB
  go_enter Tryd.func17, Tryd.ntmps17
  go_wp2
  exact bodyPost_ret (v := .agg #[.string t, .bool r, .bool m, .string c, .string o, .string n, .int .i64 a]) (by simp [results, Tryd.results17, go_sem]) rfl ⟨rfl, HB.out.alloc (Nat.le_trans hs HB.out.size) _⟩

theorem wp_buildSlice {P : Program} {o : Oper} {a : Act} {w : World} {K : Act → World → Prop} {Q : Exit → Act → World → Prop} (t : TypeId) (n : Nat) (ps : Array (Nat × Operand)) (ho : o.op = .buildSlice t n ps)
    (vs : Array (Nat × Value)) (hvs : (ps.map fun (i, x) => (i, a.eval x)) = vs) (v : Value) (w' : World) (hrun : (Instr.buildSlice t n vs).run P w = .ok v w') (h : K (a.put o.dst v) w') : o.wp P a w K Q := by
  have e : (execOp a.eval o).run P w = .ok (.value v) w' := by
    unfold execOp
    simp only [ho, Sem.run_bind, hvs, hrun]
    rfl
  show o.upon P a K Q _
  rw [e]
  exact h

/-- The parts of the literal. -/
def stdParts : Array (Nat × Value) := #[(0, .agg #[.string ⟨#[48, 50, 48]⟩, .bool true, .bool false, .string ⟨#[97, 122]⟩, .string ⟨#[]⟩, .string ⟨#[]⟩, .int .i64 0]), (1, .agg #[.string ⟨#[48, 50, 50]⟩, .bool true, .bool false, .string ⟨#[97]⟩, .string ⟨#[]⟩, .string ⟨#[]⟩, .int .i64 0]), (2, .agg #[.string ⟨#[48, 52, 49]⟩, .bool true, .bool false, .string ⟨#[97]⟩, .string ⟨#[]⟩, .string ⟨#[]⟩, .int .i64 0]), (3, .agg #[.string ⟨#[49, 48, 48]⟩, .bool false, .bool false, .string ⟨#[52, 97, 100]⟩, .string ⟨#[97]⟩, .string ⟨#[97]⟩, .int .i64 1]), (4, .agg #[.string ⟨#[49, 49, 48]⟩, .bool false, .bool false, .string ⟨#[97, 98]⟩, .string ⟨#[97]⟩, .string ⟨#[97]⟩, .int .i64 2]), (5, .agg #[.string ⟨#[50, 52, 53]⟩, .bool false, .bool true, .string ⟨#[97, 98, 99, 110, 112]⟩, .string ⟨#[97, 99]⟩, .string ⟨#[97]⟩, .int .i64 0]), (6, .agg #[.string ⟨#[50, 52, 54]⟩, .bool true, .bool false, .string ⟨#[97, 98]⟩, .string ⟨#[97]⟩, .string ⟨#[97]⟩, .int .i64 0]), (7, .agg #[.string ⟨#[50, 53, 48]⟩, .bool false, .bool false, .string ⟨#[97, 98]⟩, .string ⟨#[]⟩, .string ⟨#[]⟩, .int .i64 0]), (8, .agg #[.string ⟨#[50, 54, 48]⟩, .bool true, .bool false, .string ⟨#[97, 98, 99]⟩, .string ⟨#[]⟩, .string ⟨#[]⟩, .int .i64 0]), (9, .agg #[.string ⟨#[50, 54, 52]⟩, .bool true, .bool false, .string ⟨#[97, 98, 99]⟩, .string ⟨#[]⟩, .string ⟨#[]⟩, .int .i64 0]), (10, .agg #[.string ⟨#[51, 48, 48]⟩, .bool true, .bool false, .string ⟨#[97, 98, 99]⟩, .string ⟨#[]⟩, .string ⟨#[]⟩, .int .i64 0]), (11, .agg #[.string ⟨#[52, 52, 48]⟩, .bool true, .bool false, .string ⟨#[97, 118]⟩, .string ⟨#[97]⟩, .string ⟨#[97]⟩, .int .i64 4]), (12, .agg #[.string ⟨#[52, 57, 48]⟩, .bool true, .bool false, .string ⟨#[97, 118]⟩, .string ⟨#[97]⟩, .string ⟨#[97]⟩, .int .i64 0]), (13, .agg #[.string ⟨#[53, 48, 48]⟩, .bool true, .bool false, .string ⟨#[97]⟩, .string ⟨#[97]⟩, .string ⟨#[97]⟩, .int .i64 0]), (14, .agg #[.string ⟨#[53, 50, 48]⟩, .bool true, .bool false, .string ⟨#[97]⟩, .string ⟨#[]⟩, .string ⟨#[]⟩, .int .i64 0]), (15, .agg #[.string ⟨#[54, 48, 48]⟩, .bool true, .bool false, .string ⟨#[97, 100, 120, 121, 122]⟩, .string ⟨#[97]⟩, .string ⟨#[97]⟩, .int .i64 1]), (16, .agg #[.string ⟨#[54, 49, 48]⟩, .bool true, .bool false, .string ⟨#[97, 98, 120, 121, 122]⟩, .string ⟨#[97]⟩, .string ⟨#[97]⟩, .int .i64 2]), (17, .agg #[.string ⟨#[54, 53, 48]⟩, .bool true, .bool false, .string ⟨#[97, 120, 121, 122]⟩, .string ⟨#[97]⟩, .string ⟨#[97]⟩, .int .i64 3]), (18, .agg #[.string ⟨#[54, 53, 49]⟩, .bool true, .bool false, .string ⟨#[97, 120, 121, 122]⟩, .string ⟨#[97]⟩, .string ⟨#[97]⟩, .int .i64 3]), (19, .agg #[.string ⟨#[55, 48, 48]⟩, .bool true, .bool false, .string ⟨#[52, 97, 100]⟩, .string ⟨#[97]⟩, .string ⟨#[97]⟩, .int .i64 1]), (20, .agg #[.string ⟨#[55, 49, 48]⟩, .bool true, .bool false, .string ⟨#[97, 98]⟩, .string ⟨#[97]⟩, .string ⟨#[97]⟩, .int .i64 2]), (21, .agg #[.string ⟨#[55, 55, 54]⟩, .bool true, .bool false, .string ⟨#[116, 119]⟩, .string ⟨#[]⟩, .string ⟨#[]⟩, .int .i64 0]), (22, .agg #[.string ⟨#[55, 56, 55]⟩, .bool true, .bool false, .string ⟨#[116, 119]⟩, .string ⟨#[]⟩, .string ⟨#[]⟩, .int .i64 0]), (23, .agg #[.string ⟨#[56, 51, 48]⟩, .bool true, .bool false, .string ⟨#[97, 118]⟩, .string ⟨#[97]⟩, .string ⟨#[97]⟩, .int .i64 4]), (24, .agg #[.string ⟨#[56, 53, 54]⟩, .bool true, .bool false, .string ⟨#[117, 122]⟩, .string ⟨#[]⟩, .string ⟨#[]⟩, .int .i64 0])]
set_option maxRecDepth 100000 in
theorem std_build (w : World) : (Instr.buildSlice 22 25 stdParts).run Tryd.prog w = .ok (.slice (some ⟨w.heap.size, 0, none⟩) 25 25) (w.alloc (.cells (stdR.flatMap encR).toArray 25)) := by kernel_rfl

theorem rulesAt_alloc (w : World) (rs : List Rule) : RulesAt (w.alloc (.cells (rs.flatMap encR).toArray 25)) w.heap.size 0 rs :=
  rulesAt_of_flat fun j u hu => by
    rw [cell_of_row _ _ _ (rs.flatMap encR).toArray 25 (0, 0) (heap_alloc_new w _), Nat.zero_add]
    simpa using hu

set_option maxHeartbeats 2000000 in
set_option maxRecDepth 100000 in
theorem refstd_any (w : World) :
    Calls Tryd.prog 8 #[] w fun e w' => ∃ g, e = .returned (.slice (some ⟨g, 0, none⟩) 25 25) ∧ w.heap.size ≤ g ∧ g < w'.heap.size ∧ RulesAt w' g 0 stdR ∧ Below w.heap.size w w' := by
  have HB := Below.refl w.heap.size w
  go_enter Tryd.func8, Tryd.ntmps8
  go_wp2_with (go_at_call 17; refine (rule_any _ _ _ HB (Nat.le_refl _) _ _ _ _ _ _ _).mono ?_; rintro e w' ⟨rfl, hb⟩; clear HB; have HB := hb; clear hb)
  refine wp_buildSlice 22 25 _ rfl stdParts (by kernel_rfl) _ _ (std_build _) ?_
  go_wp2
  go_ret
  exact ⟨_, rfl, HB.size, by simp, rulesAt_alloc _ _, HB.alloc HB.size _⟩
end Go.Proofs.YtgpmbkbhkjepgaaDoor
