/-
  THE WALK OF field's closure add: it appends a problem to the list that lies in its captured variable; nothing below that variable turns. Conditions: the variables lie in memory as told, the list is the call's own.
-/
import Derived.Test.YtgpmbkbhkjepgaaDoorChkA
import Derived.Lib.SmallJoins
namespace Go.Proofs.YtgpmbkbhkjepgaaDoor
open Go.RowKit

/-- A problem's four cells. -/
def prob (kind index : Int) (tag : ByteArray) (code : Int) : List Value := [.int .i64 kind, .int .i64 index, .string tag, .int .u8 code]
theorem info44 : (Tryd.prog.info? 44).map (fun i => (i.zero, i.size, i.bytes)) = some (some (.agg #[.int .i64 0, .int .i64 0, .string ⟨#[]⟩, .int .u8 0]), 4, 40) := by kernel_rfl
theorem prob_one (kind index : Int) (tag : ByteArray) (code : Int) : ∀ u ∈ prob kind index tag code, u.oneCell' = true := by
  intro u hu
  simp only [prob, List.mem_cons, List.mem_nil_iff, or_false] at hu
  rcases hu with rfl | rfl | rfl | rfl <;> rfl

/-- What lies in a variable of a slice's type, and its list. -/
def Holds (w : World) (o n : Nat) (xs : List Value) : Prop := ∃ v, w.cell? ⟨o, 0, none⟩ = some v ∧ w.frozen? ⟨o, 0, none⟩ = false ∧ w.ownsRow (o + 1) 44 4 v n xs

set_option maxHeartbeats 1000000 in
theorem add_any (o n pi pf : Nat) (xs : List Value) (kind index code : Int) (tag : ByteArray) (w : World) (hn : n ≤ 65536) (ho : o < w.heap.size) (hh : Holds w o n xs) 
    (ci : w.cell? ⟨pi, 0, none⟩ = some (.int .i64 index)) (cf : w.cell? ⟨pf, 0, none⟩ = some (.string tag)) :
    Calls Tryd.prog 34 #[.int .i64 kind, .int .u8 code, .pointer (some ⟨o, 0, none⟩), .pointer (some ⟨pi, 0, none⟩), .pointer (some ⟨pf, 0, none⟩)] w fun e w' => e = .returned (.tuple #[]) ∧ Holds w' o (n + 1) (xs ++ prob kind index tag code) ∧ Below o w w' := by
  obtain ⟨v, co, fo, hown⟩ := hh
  obtain ⟨i0, hi0, hz0, hz1, hz2⟩ := info_parts info44
  have ho1 : o ≠ w.heap.size := by omega
  go_enter Tryd.func34, Tryd.ntmps34
  go_wp2_with (at_builtin; refine wpList_append_own _ rfl _ _ 45 rfl (o + 1) 44 i0 _ 4 40 Tryd.underlying45 hi0 hz0 hz1 hz2 rfl (by decide) _ _ _ rfl (hown.alloc _) ⟨w.heap.size, 0, none⟩ 1 1 (prob kind index tag code) rfl ?c1 ?c2 ?c3 ?c4 ?c5 ?c6 ?_)
  case c1 => rfl
  case c2 =>
    intro j u hj
    rw [Addr.add_lit, cell_of_row _ _ _ _ _ _ (heap_alloc_new w _), Nat.zero_add]
    simpa [prob] using hj
  case c3 => exact prob_one _ _ _ _
  case c4 => unfold maxLen; omega
  case c5 => omega
  case c6 => simp; omega
  intro v' w1 hown1 hgrow _
  have hgb : Below o w w1 := (((Below.refl _ _).alloc (Nat.le_of_lt ho) _).grown hgrow (by simp; omega) (fun k hk => Nat.le_of_succ_le (hown.lt k hk).1))
  have hblk : w1.heap[o]? = w.heap[o]? := (hgrow.block o (by simp; omega) (fun e => by have := (hown.lt o e.symm).1; omega)).trans (Below.heap_alloc w _ o ho)
  have co1 : w1.cell? ⟨o, 0, none⟩ = some v := (World.cell?_of_block (a := ⟨o, 0, none⟩) hblk).trans co
  have fo1 : w1.frozen? ⟨o, 0, none⟩ = false := (World.frozen?_of_block (a := ⟨o, 0, none⟩) hblk).trans fo
  clear hblk
  obtain ⟨g, cap, rfl⟩ := Joins.ownsRow_form hown1 (by omega)
  go_wp2
  go_end0
  exact ⟨rfl, ⟨_, World.cell?_setCell_same' w1 _ _ (by rw [co1]; rfl), by rw [World.frozen?_setCell]; exact fo1, ownsRow_setCell_below hown1 (by simp) _⟩, hgb.setCell (Nat.le_refl _) _⟩
end Go.Proofs.YtgpmbkbhkjepgaaDoor
