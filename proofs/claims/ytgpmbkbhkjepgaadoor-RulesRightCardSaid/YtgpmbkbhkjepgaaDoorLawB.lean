/-
  THE WALK OF RulesStandard: true; what lay in memory lies there still. Condition: the table in block 0 reads as its initialiser lays it.
-/
import Derived.Test.YtgpmbkbhkjepgaaDoorChkH
import Derived.Test.YtgpmbkbhkjepgaaDoorRuleE
namespace Go.Proofs.YtgpmbkbhkjepgaaDoor
open Go.RowKit

theorem eql_rule (r : Rule) (w : World) : (binOp .eql 25 (.agg #[.string r.tag, .bool r.rep, .bool r.must, .string r.codes, .string r.once, .string r.needs, .int .i64 r.auth]) (.agg #[.string r.tag, .bool r.rep, .bool r.must, .string r.codes, .string r.once, .string r.needs, .int .i64 r.auth])).run Tryd.prog w = .ok (.bool true) w := by
  have u3 := Tryd.underlying3
  have u4 := Tryd.underlying4
  have u9 := Tryd.underlying9
  have a3 := Tryd.isAgg3
  have a4 := Tryd.isAgg4
  have a9 := Tryd.isAgg9
  have z3 := Tryd.sizeOf3
  have z4 := Tryd.sizeOf4
  have z9 := Tryd.sizeOf9
  rw [run_eql_struct, show (10000 : Nat) = 9999 + 1 from rfl, run_equalIn_agg w 9999 25 _ _ str25 held25]
  simp only [Program.fieldsOf, Tryd.underlying25]
  go_simp

theorem right_std : rightR stdR = 0 := by
  have e : ∀ k, k < stdR.length → errW none stdR k = 0 := by
    have h : ((List.range 25).all fun k => decide (errW none stdR k = 0)) = true := by
      unfold errW errOf restErr twiceB formB
      simp only [ByteArray.toList_eq]
      kernel_rfl
    intro k hk
    exact of_decide_eq_true (List.all_eq_true.1 h k (List.mem_range.2 hk))
  exact right_ok stdR (by decide) e
theorem short_std : ∀ j, j < stdR.length → Short stdR[j]! := by
  have h : (stdR.all shortB) = true := by kernel_rfl
  intro j hj
  rw [List.all_eq_true] at h
  have := h stdR[j] (List.getElem_mem hj)
  rw [getElem!_pos stdR j hj]
  simp only [shortB, Bool.and_eq_true, decide_eq_true_eq] at this
  exact ⟨this.1, this.2.1, this.2.2.1, this.2.2.2⟩
theorem rightS_any (w : World) (g cap : Nat) (h : StdAt w g) : Calls Tryd.prog 11 #[.slice (some ⟨g, 0, none⟩) 25 cap] w fun e w' => e = .returned (.int .i64 0) ∧ Below w.heap.size w w' := by
  have := right_any g 0 cap stdR w h.1 h.2 short_std (by decide)
  rw [right_std] at this
  exact this
theorem sameS_any (w : World) (g cap g' : Nat) (h : StdAt w g) (h' : StdAt w g') : Calls Tryd.prog 10 #[.slice (some ⟨g, 0, none⟩) 25 cap, .slice (some ⟨g', 0, none⟩) 25 25] w fun e w' => e = .returned (.bool true) ∧ Below w.heap.size w w' :=
  (same_any g 0 cap g' 0 25 stdR w h.2 h'.2 (by decide)).mono fun _ _ ⟨he, n, hn⟩ => ⟨he, by rw [hn]; exact below_drewN (Below.refl _ _) _⟩
/-- What Find returns, parted. -/
theorem found_form (o : Option Rule) : ∃ (r : Rule) (b : Bool), foundV o = .tuple #[.agg #[.string r.tag, .bool r.rep, .bool r.must, .string r.codes, .string r.once, .string r.needs, .int .i64 r.auth], .bool b] := by
  cases o with
  | none => exact ⟨⟨⟨#[]⟩, false, false, ⟨#[]⟩, ⟨#[]⟩, ⟨#[]⟩, 0⟩, false, rfl⟩
  | some r => exact ⟨r, true, rfl⟩

/-- A rule's box behind later calls. -/
theorem box_kept {w w' : World} {r : Rule} (hb : Below (w.heap.size + 1) (w.alloc (.cells #[.string r.tag, .bool r.rep, .bool r.must, .string r.codes, .string r.once, .string r.needs, .int .i64 r.auth] 25)) w') :
    w'.cell? ⟨w.heap.size, 0, none⟩ = some (.string r.tag) ∧ w'.cell? ⟨w.heap.size, 1, none⟩ = some (.bool r.rep) ∧ w'.cell? ⟨w.heap.size, 2, none⟩ = some (.bool r.must) ∧ w'.cell? ⟨w.heap.size, 3, none⟩ = some (.string r.codes) ∧
    w'.cell? ⟨w.heap.size, 4, none⟩ = some (.string r.once) ∧ w'.cell? ⟨w.heap.size, 5, none⟩ = some (.string r.needs) ∧ w'.cell? ⟨w.heap.size, 6, none⟩ = some (.int .i64 r.auth) := by
  refine ⟨?_, ?_, ?_, ?_, ?_, ?_, ?_⟩ <;> (rw [hb.cell (by simp)]; go_simp)

set_option maxRecDepth 100000 in
set_option maxHeartbeats 2000000 in
theorem law_standard (t : ByteArray) (w : World) (hs : RulesAt w 0 0 stdR) (h0 : 0 < w.heap.size) : Calls Tryd.prog 3 #[.string t] w fun e w' => e = .returned (.bool true) ∧ Below w.heap.size w w' := by
  obtain ⟨r, ok, hf⟩ := found_form (findI t stdR)
  have HST := Lib.hid (std_any w hs)
  have HT : Hid (∀ W, Below w.heap.size w W → RulesAt W 0 0 stdR) := fun W hW => hs.below hW h0
  have HFI : Hid (∀ (W : World) (g cap : Nat), StdAt W g → Calls Tryd.prog 6 #[.slice (some ⟨g, 0, none⟩) 25 cap, .string t] W fun e w' => e = .returned (.tuple #[.agg #[.string r.tag, .bool r.rep, .bool r.must, .string r.codes, .string r.once, .string r.needs, .int .i64 r.auth], .bool ok]) ∧ Below W.heap.size W w') := by
    intro W g cap h
    have := find_any g 0 cap stdR t W h.1 h.2 (by decide)
    rw [hf] at this
    exact this
  have HRF : Hid (∀ (W : World) (g cap : Nat), StdAt W g → Calls Tryd.prog 7 #[.slice (some ⟨g, 0, none⟩) 25 cap, .string t] W fun e w' => e = .returned (.tuple #[.agg #[.string r.tag, .bool r.rep, .bool r.must, .string r.codes, .string r.once, .string r.needs, .int .i64 r.auth], .bool ok]) ∧ Below W.heap.size W w') := by
    intro W g cap h
    have := reffind_any g 0 cap stdR t W h.1 h.2 (by decide)
    rw [hf] at this
    exact this
  have heq := eql_rule r
  clear hf hs
  go_enter Tryd.func3, Tryd.ntmps3
  go_wp2_with (first
    | (go_at_call 5; refine HST.out.mono ?_; rintro e w1 ⟨g, cap, rfl, _, h2, h3, hb1⟩; have S1 : StdAt w1 g := ⟨h2, h3⟩; clear h2 h3)
    | (go_at_call 6; refine (HFI.out _ _ _ S1).mono ?_; rintro e w2 ⟨rfl, hb2⟩; have S2 := (S1.below hb2).alloc (.cells #[.string r.tag, .bool r.rep, .bool r.must, .string r.codes, .string r.once, .string r.needs, .int .i64 r.auth] 25); have B2 := (hb1.trans (hb2.mono hb1.size)).alloc (Nat.le_trans hb1.size hb2.size) (.cells #[.string r.tag, .bool r.rep, .bool r.must, .string r.codes, .string r.once, .string r.needs, .int .i64 r.auth] 25); have K2 : Below (w2.heap.size + 1) (w2.alloc (.cells #[.string r.tag, .bool r.rep, .bool r.must, .string r.codes, .string r.once, .string r.needs, .int .i64 r.auth] 25)) (w2.alloc (.cells #[.string r.tag, .bool r.rep, .bool r.must, .string r.codes, .string r.once, .string r.needs, .int .i64 r.auth] 25)) := Below.refl _ _)
    | (go_at_call 8; have tok := S2; clear tok; refine (refstd_any _).mono ?_; rintro e w3 ⟨g3, rfl, _, h2, h3, hb3⟩; have S3 := S2.below hb3; have R3 : StdAt w3 g3 := ⟨h2, h3⟩; have B3 := B2.trans (hb3.mono B2.size); have K3 := K2.trans (hb3.mono (Nat.le_of_eq (World.size_alloc _ _).symm)); clear h2 h3 S2 K2)
    | (go_at_call 7; refine (HRF.out _ _ _ R3).mono ?_; rintro e w4 ⟨rfl, hb4⟩; have S4 := (S3.below hb4).alloc (.cells #[.string r.tag, .bool r.rep, .bool r.must, .string r.codes, .string r.once, .string r.needs, .int .i64 r.auth] 25); have B4 := (B3.trans (hb4.mono B3.size)).alloc (Nat.le_trans B3.size hb4.size) (.cells #[.string r.tag, .bool r.rep, .bool r.must, .string r.codes, .string r.once, .string r.needs, .int .i64 r.auth] 25); have Z3 := Nat.le_trans (Nat.le_of_eq (World.size_alloc w2 (.cells #[.string r.tag, .bool r.rep, .bool r.must, .string r.codes, .string r.once, .string r.needs, .int .i64 r.auth] 25)).symm) K3.size; have K4 := (K3.trans (hb4.mono Z3)).alloc (Nat.le_trans Z3 hb4.size) (.cells #[.string r.tag, .bool r.rep, .bool r.must, .string r.codes, .string r.once, .string r.needs, .int .i64 r.auth] 25); have L4 : Below (w4.heap.size + 1) (w4.alloc (.cells #[.string r.tag, .bool r.rep, .bool r.must, .string r.codes, .string r.once, .string r.needs, .int .i64 r.auth] 25)) (w4.alloc (.cells #[.string r.tag, .bool r.rep, .bool r.must, .string r.codes, .string r.once, .string r.needs, .int .i64 r.auth] 25)) := Below.refl _ _; clear S3 K3 Z3)
    | (go_at_call 9; refine (alive_any _ (HT.out _ B4)).mono ?_; rintro e w5 ⟨rfl, hb5⟩; have S5 := S4.below hb5; have B5 := B4.trans (hb5.mono B4.size); have K5 := K4.trans (hb5.mono (Nat.le_trans (Nat.le_of_eq (World.size_alloc w2 (.cells #[.string r.tag, .bool r.rep, .bool r.must, .string r.codes, .string r.once, .string r.needs, .int .i64 r.auth] 25)).symm) K4.size)); have L5 := L4.trans (hb5.mono (Nat.le_of_eq (World.size_alloc _ _).symm)); clear S4 K4 L4)
    | (go_at_call 8; refine (refstd_any _).mono ?_; rintro e w6 ⟨g6, rfl, _, h2, h3, hb6⟩; have S6 := S5.below hb6; have R6 : StdAt w6 g6 := ⟨h2, h3⟩; have B6 := B5.trans (hb6.mono B5.size); have K6 := K5.trans (hb6.mono (Nat.le_trans (Nat.le_of_eq (World.size_alloc w2 (.cells #[.string r.tag, .bool r.rep, .bool r.must, .string r.codes, .string r.once, .string r.needs, .int .i64 r.auth] 25)).symm) K5.size)); have L6 := L5.trans (hb6.mono (Nat.le_trans (Nat.le_of_eq (World.size_alloc w4 (.cells #[.string r.tag, .bool r.rep, .bool r.must, .string r.codes, .string r.once, .string r.needs, .int .i64 r.auth] 25)).symm) L5.size)); clear h2 h3 S5 K5 L5)
    | (go_at_call 10; refine (sameS_any _ _ _ _ S6 R6).mono ?_; rintro e w7 ⟨rfl, hb7⟩; have S7 := S6.below hb7; have B7 := B6.trans (hb7.mono B6.size); have K7 := K6.trans (hb7.mono (Nat.le_trans (Nat.le_of_eq (World.size_alloc w2 (.cells #[.string r.tag, .bool r.rep, .bool r.must, .string r.codes, .string r.once, .string r.needs, .int .i64 r.auth] 25)).symm) K6.size)); have L7 := L6.trans (hb7.mono (Nat.le_trans (Nat.le_of_eq (World.size_alloc w4 (.cells #[.string r.tag, .bool r.rep, .bool r.must, .string r.codes, .string r.once, .string r.needs, .int .i64 r.auth] 25)).symm) L6.size)); clear S6 K6 L6)
    | (go_at_call 11; refine (rightS_any _ _ _ S7).mono ?_; rintro e w8 ⟨rfl, hb8⟩; have B8 := B7.trans (hb8.mono B7.size); have K8 := K7.trans (hb8.mono (Nat.le_trans (Nat.le_of_eq (World.size_alloc w2 (.cells #[.string r.tag, .bool r.rep, .bool r.must, .string r.codes, .string r.once, .string r.needs, .int .i64 r.auth] 25)).symm) K7.size)); have L8 := L7.trans (hb8.mono (Nat.le_trans (Nat.le_of_eq (World.size_alloc w4 (.cells #[.string r.tag, .bool r.rep, .bool r.must, .string r.codes, .string r.once, .string r.needs, .int .i64 r.auth] 25)).symm) L7.size)); clear S7 K7 L7; obtain ⟨k0, k1, k2, k3, k4, k5, k6⟩ := box_kept K8; obtain ⟨l0, l1, l2, l3, l4, l5, l6⟩ := box_kept L8))
  go_ret
  exact ⟨ret_bool (by simp), B8⟩
end Go.Proofs.YtgpmbkbhkjepgaaDoor
