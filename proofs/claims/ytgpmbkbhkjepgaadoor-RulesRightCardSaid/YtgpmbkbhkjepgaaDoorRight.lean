/-
  THE STATEMENT RulesRight IS PROVED: of every list of rules the call returns true and the list reads as before. Condition: the listed package-level variables start as the program's text lays them; the card ties them to it.
-/
import Derived.Test.YtgpmbkbhkjepgaaDoorRead
import Derived.Test.YtgpmbkbhkjepgaaDoorLawA
namespace Go.Proofs.YtgpmbkbhkjepgaaDoor
open Go.ChangeShapes Go.WideShapes Go.ChangeAt Go.RowKit

/-- A slice that reads as data holds rules. -/
theorem rules_of_slice {H : Type} {enc : TypeId × Value → H} {w : World} {base : Nat} {sp : Nat → Bool} {held : Bool} {fuel : Nat} {cs : List Value} {x : DataW H × List MemPlace} (h : DataW.trod enc Tryd.prog w base sp held fuel 22 cs = some x) :
    (∃ A c, cs = [.slice A 0 c]) ∨ ∃ (b off c : Nat) (rs : List Rule), cs = [.slice (some ⟨b, off, none⟩) rs.length c] ∧ b < w.heap.size ∧ RulesAt w b off rs ∧ rs.length ≤ 9223372036854775807 := by
  rcases Deep.open_slice Tryd.underlying22 h with ⟨hcs, _⟩ | ⟨a, len, cap, m, n, D, Pl, hcs, _, hl, hm, hmm, _, hi⟩
  · exact .inl ⟨none, 0, hcs⟩
  · rcases Nat.eq_zero_or_pos len with h0 | h0
    · subst h0
      exact .inl ⟨some a, cap, hcs⟩
    · right
      have hlm : len ≤ m := by rw [hmm]; split <;> omega
      have hex : ∀ i : Nat, ∃ r : Rule, i < len → ∀ j, j < 7 → w.cell? (a.add (i * 7 + j)) = (encR r)[j]? := by
        intro i
        by_cases hlt : i < len
        · obtain ⟨cs', hc, ht⟩ := hi i (Nat.lt_of_lt_of_le hlt hlm)
          rw [cells25] at hc
          obtain ⟨r, rfl, _⟩ := rule_of_trod ht
          obtain ⟨_, _, hat⟩ := World.cells?_some hc
          exact ⟨r, fun _ j hj => by rw [← Deep.add_add]; exact hat j hj⟩
        · exact ⟨default, fun h => absurd h hlt⟩
      obtain ⟨f, hf⟩ := Classical.axiomOfChoice hex
      obtain ⟨b, off, spot⟩ := a
      have hcell : w.cell? ((⟨b, off, spot⟩ : Addr).add 0) = some (.string (f 0).tag) := hf 0 h0 0 (by decide)
      have hspot : spot = none := by simpa [Addr.add] using World.cell?_spot hcell
      subst hspot
      have hb : b < w.heap.size := by
        rcases Nat.lt_or_ge b w.heap.size with h | h
        · exact h
        · simp [Addr.add, World.cell?, Array.getElem?_eq_none h] at hcell
      refine ⟨b, off, cap, (List.range len).map f, by rw [hcs]; simp, hb, ?_, ?_⟩
      · intro j hj i v hi'
        have hjl : j < len := by simpa using hj
        have e : ((List.range len).map f)[j]! = f j := by rw [getElem!_pos _ j hj]; simp
        rw [e] at hi'
        have h7 : i < 7 := by
          have := (List.getElem?_eq_some_iff.1 hi').1
          rwa [encR_len] at this
        have := hf j hjl i h7
        rw [Addr.add_lit, ← Nat.add_assoc] at this
        exact this.trans hi'
      · simp
        unfold maxLen at hm
        omega

set_option maxRecDepth 100000 in
theorem right_lifted (os : Os) (started : os.Started) (H : Type) (enc : TypeId × Value → H) :
    ReturnsInHanded {} Tryd.checked os 4 .any (fun w args => (Rows.rulesRightSpec.pre enc Tryd.prog Tryd.f4 [] false w args ∧ laidMetH Tryd.prog Rows.rulesRightRow.laid w) ∧ sizedMet enc Tryd.prog Tryd.f4 (OpenSpec.ofChange Rows.rulesRightSpec) false w args)
      (Rows.rulesRightSpec.post enc Tryd.prog Tryd.f4 false true false false) := by
  refine returnsInHanded_of_change_and (C := Tryd.checked) (X := fun w _ => laidMetH Tryd.prog Rows.rulesRightRow.laid w) (fun _ _ _ hh h => h.of_heap hh) ownKn started (by kernel_rfl) Tryd.func4
    (ChangeSpec.witness_shaped (enc := enc) (C := Tryd.checked) (os := os) (X := fun w _ => laidMetH Tryd.prog Rows.rulesRightRow.laid w) false (World.laidAll Tryd.prog os Rows.rulesRightRow.laid) #[.slice none 0 0] 8 (World.laidAll_os _ _ _)
      (World.shaped_of_ZipB (by kernel_rfl) (by kernel_rfl)) (by kernel_rfl) (by kernel_rfl) (by kernel_rfl)
      (by rw [MakeChecks.laidMetH_plain _ _ _ (by kernel_rfl)]; exact laidMet_laidAll _ (by kernel_rfl) (by kernel_rfl))) ?_
  intro W base args ds gs before hval0 hW _ _ hL _
  have hval : ∀ (j : Nat) t v, Tryd.f4.params[j]? = some t → args[j]? = some v → Value.okWide Tryd.prog W .any base t v := hval0
  have hW' := hW
  obtain ⟨p, q, hA0, hV, rfl, _, _⟩ := hW
  have hA : DataW.TrodAll enc Tryd.prog W 0 (fun _ => true) true Tryd.f4.params.toList args.toList ds p := hA0
  rw [Tryd.params4] at hA hval
  obtain ⟨v0, d0, rfl, rfl, h0⟩ := trodAll_one hA
  obtain ⟨rfl, rfl⟩ := trodVars_none hV
  obtain ⟨a0, len, cap, rfl⟩ := okWide_slice Tryd.underlying22 (hval 0 22 v0 rfl rfl)
  have h0k := h0
  obtain ⟨fuel, hf⟩ := h0
  clear hA0 hval0
  simp only [List.append_nil] at hW'
  have hlt : ∀ y ∈ p, y.block < W.heap.size := fun y hy => by simpa using hW'.lt y (by simp [hy])
  have harg0 : ∀ W' : World, Below W.heap.size W W' → DataW.Trod enc Tryd.prog W' 0 (fun b => decide (b < W.heap.size)) true 22 (.slice a0 len cap) d0 p :=
    fun W' hn => Below.trod laidOutT (by kernel_rfl) (of_decide_eq_true (by kernel_rfl)) h0k hn hlt
  rw [MakeChecks.laidMetH_plain _ _ _ (by kernel_rfl)] at hL
  obtain ⟨hR, _⟩ := table_of hL
  have walk : Calls Tryd.prog 4 #[.slice a0 len cap] W fun e w' => e = .returned (.bool true) ∧ Below W.heap.size W w' := by
    rcases rules_of_slice hf with ⟨A, c, hcs⟩ | ⟨b, off, c, rs, hcs, hb, hc, hbig⟩
    · simp [Value.cells] at hcs
      obtain ⟨rfl, rfl, rfl⟩ := hcs
      exact law_right_none _ _ W hR
    · simp [Value.cells] at hcs
      obtain ⟨rfl, rfl, rfl⟩ := hcs
      exact law_right b off _ rs W hR hb hc hbig
  refine walk.mono fun e W' ⟨he, hb⟩ => ?_
  subst he
  exact ⟨_, rfl, _, _, _, [], _, [], hW', trodAll_mk1 (shut_bool Tryd.underlying4 _), trodAll_mk1 (harg0 _ hb), rfl, hb.frame _, fun h => by cases h⟩

theorem right_said : Rows.RulesRightSaid :=
  OpenClaim.holds_of_wide 4 Tryd.f4 rfl rfl rfl rfl rfl rfl rfl ⟨rfl, rfl, rfl, rfl, rfl⟩ rfl rfl rfl rfl rfl (by kernel_rfl) Tryd.func4 (by kernel_rfl)
    (of_decide_eq_true (by kernel_rfl)) (by unfold Func.isWrapper; first | (rw [if_pos (by decide +kernel)]; kernel_rfl) | (rw [if_neg (by decide +kernel)]; exact ⟨rfl, rfl⟩))
    (fun os started H enc _ => right_lifted os started H enc)

theorem right_plain (f : FuncId) (fn : Func) (hf : Tryd.pinned.checked.prog.funcNamed Rows.rulesRightRow.func = some f) (hfn : Tryd.pinned.checked.prog.funcs[f]? = some fn) :
    false = Tryd.pinned.checked.prog.looks [] ∧ ∀ (j : Nat) t, fn.params[j]? = some t → Tryd.pinned.checked.prog.wantsStandIn t = false := by
  obtain rfl : f = 4 := Option.some.inj ((show Tryd.prog.funcNamed Rows.rulesRightRow.func = some 4 by kernel_rfl).symm.trans hf) |>.symm
  obtain rfl : fn = Tryd.f4 := (Option.some.inj (Tryd.func4.symm.trans hfn)).symm
  refine ⟨by kernel_rfl, fun j t ht => ?_⟩
  rw [Tryd.params4] at ht
  obtain rfl : t = 22 := by simpa using Array.mem_of_getElem? ht
  exact (show Tryd.prog.wantsStandIn 22 = false by kernel_rfl)

theorem right_holds : Rows.RulesRightCardSaid :=
  Claim7.holds_tied_plain_at .later [] _ _ _ _ right_said (fun _ h => by cases h) (by kernel_rfl) (fun _ h => by cases h) rulesRight_row_tie rfl ⟨rfl, rfl⟩ (by kernel_rfl) rfl right_plain (by kernel_rfl)
#print axioms right_holds
end Go.Proofs.YtgpmbkbhkjepgaaDoor
