/-
  THE WALK OF rules.Standard: it hands back a slice of its own memory that reads as the 25 standard rules; what lay in memory lies there still. Condition: the table in block 0 reads as its initialiser lays it.
-/
import Derived.Test.YtgpmbkbhkjepgaaDoorRuleG
namespace Go.Proofs.YtgpmbkbhkjepgaaDoor
open Go.RowKit

theorem info25 : (Tryd.prog.info? 25).map (fun i => (i.zero, i.size, i.bytes)) = some (some (.agg #[.string ⟨#[]⟩, .bool false, .bool false, .string ⟨#[]⟩, .string ⟨#[]⟩, .string ⟨#[]⟩, .int .i64 0]), 7, 80) := by kernel_rfl
theorem encR_one (rs : List Rule) : ∀ u ∈ rs.flatMap encR, u.oneCell' = true := by
  intro u hu
  obtain ⟨r, _, h⟩ := List.mem_flatMap.1 hu
  simp only [encR, List.mem_cons, List.mem_nil_iff, or_false] at h
  rcases h with rfl | rfl | rfl | rfl | rfl | rfl | rfl <;> rfl

/-- slices.Clone of the table. -/
theorem clone_std (w : World) (hc : RulesAt w 0 0 stdR) :
    Calls Tryd.prog 14 #[.slice (some ⟨0, 0, none⟩) 25 25] w fun e w' => ∃ g cap, e = .returned (.slice (some ⟨g, 0, none⟩) 25 cap) ∧ w.heap.size ≤ g ∧ g < w'.heap.size ∧ RulesAt w' g 0 stdR ∧ Below w.heap.size w w' := by
  obtain ⟨i0, hi, hz0, hz1, hz2⟩ := info_parts info25
  refine (AnyE.slices_Clone Tryd.laysClone i0 _ 7 80 hi hz0 hz1 hz2 rfl (by decide) Tryd.sizeOf25 0 0 25 25 (stdR.flatMap encR) w rfl (by unfold maxLen; decide) (by decide) (flat_of_rulesAt hc) (encR_one _)).mono ?_
  rintro e w' ⟨v, rfl, hown, _, hb⟩
  rcases hown.2 with ⟨_, h⟩ | ⟨g, cap, cur, rfl, hg, hh, _⟩
  · cases h
  · refine ⟨g, cap, rfl, hg, ?_, rulesAt_of_flat fun j u hu => ?_, hb⟩
    · rcases Nat.lt_or_ge g w'.heap.size with hlt | hge
      · exact hlt
      · rw [Array.getElem?_eq_none hge] at hh; cases hh
    · have := hown.cells (g := g) rfl j u hu
      rwa [Addr.add_lit] at this

set_option maxHeartbeats 1000000 in
theorem std_any (w : World) (hc : RulesAt w 0 0 stdR) :
    Calls Tryd.prog 5 #[] w fun e w' => ∃ g cap, e = .returned (.slice (some ⟨g, 0, none⟩) 25 cap) ∧ w.heap.size ≤ g ∧ g < w'.heap.size ∧ RulesAt w' g 0 stdR ∧ Below w.heap.size w w' := by
  have HC := Lib.hid (clone_std w hc)
  clear hc
  go_enter Tryd.func5, Tryd.ntmps5
  go_wp2_with (go_at_call 14; refine HC.out.mono ?_; rintro e w' ⟨g, cap, rfl, h1, h2, h3, h4⟩)
  go_ret
  exact ⟨g, cap, rfl, h1, h2, h3, h4⟩
end Go.Proofs.YtgpmbkbhkjepgaaDoor
