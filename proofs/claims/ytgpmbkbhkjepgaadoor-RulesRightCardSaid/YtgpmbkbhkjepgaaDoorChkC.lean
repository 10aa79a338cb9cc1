/-
  THE WALK OF rules.field at a field that is linked to no authority: it returns the problems of its subfields and needs, in a list of its own; what lay in memory lies there still. Conditions: the subfields lie in memory as told, the texts are short.
-/
import Derived.Test.YtgpmbkbhkjepgaaDoorChkB
import Derived.Test.YtgpmbkbhkjepgaaDoorRuleC
import Derived.Deep.QuietTactic
import Derived.BigQuiet
import Derived.StillTailTactics
import Derived.Deep.LoopGhost
namespace Go.Proofs.YtgpmbkbhkjepgaaDoor
open Go.RowKit

/-- Where a code stands in a text, or -1. -/
def idxC (s : ByteArray) (c : Int) : Int := Lib.indexByte s.data.toList c.toNat.toUInt8
theorem idx_any (s : ByteArray) (c : Int) (w : World) : Calls Tryd.prog 35 #[.string s, .int .u8 c] w fun e w' => e = .returned (.int .i64 (idxC s c)) ∧ w = w' :=
  (Any.strings_IndexByte Tryd.lays137 s c w).mono fun _ _ ⟨he, hw⟩ => ⟨he, hw.symm⟩

theorem idx_q (s : ByteArray) (c : Int) (w : World) : Calls Tryd.prog 35 #[.string s, .int .u8 c] w fun e w' => e = .returned (.int .i64 (idxC s c)) ∧ w' = w := Any.strings_IndexByte Tryd.lays137 s c w

/-- The problems of one subfield; of the first k. -/
def subP (x : Rule) (index : Int) (tag : ByteArray) (l : List Sub) (k : Nat) : List Value :=
  if idxC x.codes l[k]!.code < 0 then prob 4 index tag l[k]!.code
  else if 0 ≤ idxC x.once l[k]!.code ∧ hasS l[k]!.code (l.take k) = true then prob 5 index tag l[k]!.code else []
def subsP (x : Rule) (index : Int) (tag : ByteArray) (l : List Sub) (k : Nat) : List Value := (List.range k).flatMap (subP x index tag l)
theorem subsP_succ (x : Rule) (index : Int) (tag : ByteArray) (l : List Sub) (k : Nat) : subsP x index tag l (k + 1) = subsP x index tag l k ++ subP x index tag l k := by
  simp [subsP, List.range_succ]

/-- The code that stands at place k of the needs; the problem of it. -/
def needC (s : ByteArray) (k : Nat) : Int := if h : k < s.size then (s[k].toNat : Int) else 0
theorem needC_at (s : ByteArray) (k : Nat) (h : k < s.size) : needC s k = (s[k].toNat : Int) := by rw [needC, dif_pos h]
def needP (x : Rule) (index : Int) (tag : ByteArray) (l : List Sub) (k : Nat) : List Value := if hasS (needC x.needs k) l = true then [] else prob 6 index tag (needC x.needs k)
def needsP (x : Rule) (index : Int) (tag : ByteArray) (l : List Sub) (k : Nat) : List Value := (List.range k).flatMap (needP x index tag l)
theorem needsP_succ (x : Rule) (index : Int) (tag : ByteArray) (l : List Sub) (k : Nat) : needsP x index tag l (k + 1) = needsP x index tag l k ++ needP x index tag l k := by
  simp [needsP, List.range_succ]
/-- The problems of a field that is linked to no authority. -/
def fieldP (x : Rule) (index : Int) (tag : ByteArray) (l : List Sub) : List Value := subsP x index tag l l.length ++ needsP x index tag l x.needs.size
theorem own_mono {w : World} {B B' : Nat} {e : TypeId} {size n : Nat} {v : Value} {xs : List Value} (h : w.ownsRow B e size v n xs) (hb : B' ≤ B) : w.ownsRow B' e size v n xs := by
  refine ⟨h.1, ?_⟩
  rcases h.2 with h0 | ⟨g, cap, cur, hv, hg, r⟩
  · exact .inl h0
  · exact .inr ⟨g, cap, cur, hv, by omega, r⟩

theorem Holds.far {w w' : World} {o n : Nat} {xs : List Value} (h : Holds w o n xs) (hb : Below w.heap.size w w') : Holds w' o n xs := by
  obtain ⟨v, hc, hf, hown⟩ := h
  have ho : o < w.heap.size := by
    rcases Nat.lt_or_ge o w.heap.size with h | h
    · exact h
    · simp [World.cell?, Array.getElem?_eq_none h] at hc
  exact ⟨v, (hb.cell (p := ⟨o, 0, none⟩) ho).trans hc, (hb.frozen (p := ⟨o, 0, none⟩) ho).trans hf, hown.kept (row := none) ⟨hb.os, hb.tape, hb.output, hb.size, fun k hk _ => hb.block k hk⟩ (by
    rcases h : v.ownBlock with _ | g
    · exact .inl rfl
    · exact .inr (by simp))⟩

/-- The world behind field's first rows: the boxes of its parameters, and of its list. -/
def fieldW (w : World) (x : Rule) (tag ind : ByteArray) (b n cap : Nat) (index : Int) : World :=
  (((w.alloc (.cells #[.string x.tag, .bool x.rep, .bool x.must, .string x.codes, .string x.once, .string x.needs, .int .i64 x.auth] 25)).alloc
    (.cells #[.string tag, .string ind, .slice (some ⟨b, 0, none⟩) n cap, .int .i64 0] 52)).alloc (.cells #[.int .i64 index] 3)).alloc (.cells #[.slice none 0 0] 45)
theorem fieldW_size (w : World) (x : Rule) (tag ind : ByteArray) (b n cap : Nat) (index : Int) : (fieldW w x tag ind b n cap index).heap.size = w.heap.size + 4 := by simp [fieldW]
theorem fieldW_below (w : World) (x : Rule) (tag ind : ByteArray) (b n cap : Nat) (index : Int) : Below w.heap.size w (fieldW w x tag ind b n cap index) :=
  ((((Below.refl _ _).alloc (Nat.le_refl _) _).alloc (by simp) _).alloc (by simp; omega) _).alloc (by simp; omega) _
theorem fieldW_cells {w wr : World} {x : Rule} {tag ind : ByteArray} {b n cap : Nat} {index : Int} (hb : Below (w.heap.size + 1 + 1 + 1) (fieldW w x tag ind b n cap index) wr) :
    wr.cell? ⟨w.heap.size, 3, none⟩ = some (.string x.codes) ∧ wr.cell? ⟨w.heap.size, 4, none⟩ = some (.string x.once) ∧ wr.cell? ⟨w.heap.size, 5, none⟩ = some (.string x.needs) ∧ wr.cell? ⟨w.heap.size, 6, none⟩ = some (.int .i64 x.auth) ∧
    wr.cell? ⟨w.heap.size + 1, 0, none⟩ = some (.string tag) ∧ wr.cell? ⟨w.heap.size + 1, 2, none⟩ = some (.slice (some ⟨b, 0, none⟩) n cap) ∧ wr.cell? ⟨w.heap.size + 1, 3, none⟩ = some (.int .i64 0) ∧
    wr.cell? ⟨w.heap.size + 1 + 1, 0, none⟩ = some (.int .i64 index) := by
  refine ⟨?_, ?_, ?_, ?_, ?_, ?_, ?_, ?_⟩ <;> (rw [hb.cell (by simp <;> omega)]; unfold fieldW; go_simp)
theorem fieldW_holds (w : World) (x : Rule) (tag ind : ByteArray) (b n cap : Nat) (index : Int) : Holds (fieldW w x tag ind b n cap index) (w.heap.size + 1 + 1 + 1) 0 [] :=
  ⟨.slice none 0 0, by unfold fieldW; go_simp, by unfold fieldW; go_simp, World.ownsRow_nil _ _ _ _⟩
theorem holds_below {w wr : World} {x : Rule} {tag ind : ByteArray} {b n cap : Nat} {index : Int} (hb : Below (w.heap.size + 1 + 1 + 1) (fieldW w x tag ind b n cap index) wr) : Below w.heap.size w wr :=
  (fieldW_below w x tag ind b n cap index).trans (hb.mono (by omega))

theorem subP_out {x : Rule} {index : Int} {tag : ByteArray} {l : List Sub} {k : Nat} {s : Sub} (es : s = l[k]!) (h : idxC x.codes s.code < 0) : subP x index tag l k = prob 4 index tag s.code := by
  rw [subP, ← es, if_pos h]
theorem subP_none {x : Rule} {index : Int} {tag : ByteArray} {l : List Sub} {k : Nat} {s : Sub} (es : s = l[k]!) (h : 0 ≤ idxC x.codes s.code) (h2 : idxC x.once s.code < 0) : subP x index tag l k = [] := by
  rw [subP, ← es, if_neg (by omega), if_neg (by omega)]
theorem subP_first {x : Rule} {index : Int} {tag : ByteArray} {l : List Sub} {k : Nat} {s : Sub} (es : s = l[k]!) (h : 0 ≤ idxC x.codes s.code) (h2 : hasS s.code (l.take k) = false) : subP x index tag l k = [] := by
  rw [subP, ← es, if_neg (by omega), if_neg (by rw [h2]; exact fun e => by cases e.2)]
theorem subP_again {x : Rule} {index : Int} {tag : ByteArray} {l : List Sub} {k : Nat} {s : Sub} (es : s = l[k]!) (h : 0 ≤ idxC x.codes s.code) (h1 : 0 ≤ idxC x.once s.code) (h2 : hasS s.code (l.take k) = true) : subP x index tag l k = prob 5 index tag s.code := by
  rw [subP, ← es, if_neg (by omega), if_pos ⟨h1, h2⟩]

set_option maxRecDepth 100000 in
set_option maxHeartbeats 2000000 in
theorem field_any (x : Rule) (tag ind : ByteArray) (b cap : Nat) (l : List Sub) (index : Int) (w : World) (hb : b < w.heap.size) (hc : SubsAt w b 0 l) (hl : l.length ≤ 60) (hcap : l.length ≤ cap) (hn : x.needs.size ≤ 100) :
    Calls Tryd.prog 29 #[.agg #[.string x.tag, .bool x.rep, .bool x.must, .string x.codes, .string x.once, .string x.needs, .int .i64 x.auth], .agg #[.string tag, .string ind, .slice (some ⟨b, 0, none⟩) l.length cap, .int .i64 0], .int .i64 index] w
      fun e w' => ∃ v n, e = .returned v ∧ n ≤ 160 ∧ w'.ownsRow w.heap.size 44 4 v n (fieldP x index tag l) ∧ Below w.heap.size w w' := by
  have HC := Lib.hid hc
  clear hc
  go_enter Tryd.func29, Tryd.ntmps29
  go_wp2
  go_loopw [9, 10, 16] (fun _ _ i wr => ∃ k n : Nat, k ≤ l.length ∧ i = .int .i64 k ∧ n ≤ k ∧ Below (w.heap.size + 1 + 1 + 1) (fieldW w x tag ind b l.length cap index) wr ∧ Holds wr (w.heap.size + 1 + 1 + 1) n (subsP x index tag l k)) (fun _ _ i _ => l.length - (intOf i).toNat)
  case atStart => exact ⟨0, 0, Nat.zero_le _, rfl, Nat.le_refl _, Below.refl _ _, fieldW_holds _ _ _ _ _ _ _ _⟩
  case round =>
    obtain ⟨k, n, hk, rfl, hnk, hB, hH⟩ := hrel
    obtain ⟨b3, b4, b5, b6, f0, f2, f3, i0⟩ := fieldW_cells hB
    have hsz : w.heap.size + 4 ≤ wr.heap.size := by have := hB.size; rw [fieldW_size] at this; exact this
    have hbw := holds_below hB
    by_cases hlt : k < l.length
    · obtain ⟨c0, c1⟩ := (HC.out.below hbw hb).at_ k hlt
      rw [Nat.zero_add] at c0 c1
      obtain ⟨s, es⟩ : ∃ s, s = l[k]! := ⟨_, rfl⟩
      rw [← es] at c0 c1
      have hbb : b < wr.heap.size := by omega
      have hne : b ≠ wr.heap.size := by omega
      have n0 : w.heap.size < wr.heap.size := by omega
      have n1 : w.heap.size + 1 < wr.heap.size := by omega
      have n2 : w.heap.size + 1 + 1 < wr.heap.size := by omega
      have n3 : w.heap.size + 1 + 1 + 1 < wr.heap.size := by omega
      have hB1 : Below (w.heap.size + 1 + 1 + 1) (fieldW w x tag ind b l.length cap index) (wr.alloc (.cells #[.int .u8 s.code, .string s.value] 54)) := hB.alloc (by omega) _
      have hH1 : Hid (Holds (wr.alloc (.cells #[.int .u8 s.code, .string s.value] 54)) (w.heap.size + 1 + 1 + 1) n (subsP x index tag l k)) := hH.far ((Below.refl _ _).alloc (Nat.le_refl _) _)
      by_cases h1 : idxC x.codes s.code < 0
      · have hv : Hid (subsP x index tag l (k + 1) = subsP x index tag l k ++ prob 4 index tag s.code) := by
          show subsP x index tag l (k + 1) = _
          rw [subsP_succ, subP_out es h1]
        have ES := Lib.hid es
        clear es
        have hadd := Lib.hid (add_any (w.heap.size + 1 + 1 + 1) n (w.heap.size + 1 + 1) (w.heap.size + 1) (subsP x index tag l k) 4 index s.code tag (wr.alloc (.cells #[.int .u8 s.code, .string s.value] 54)) (by omega) (by simp; omega) hH1.out ((hB1.cell (p := ⟨w.heap.size + 1 + 1, 0, none⟩) (by simp)).trans ((hB.cell (p := ⟨w.heap.size + 1 + 1, 0, none⟩) (by simp)).symm.trans i0)) ((hB1.cell (p := ⟨w.heap.size + 1, 0, none⟩) (by simp)).trans ((hB.cell (p := ⟨w.heap.size + 1, 0, none⟩) (by simp)).symm.trans f0)))
        go_wp2_with (first | (go_at_call 35; refine (idx_any _ _ _).mono ?_; rintro e w' ⟨rfl, rfl⟩) | (go_at_call 34; refine hadd.out.mono ?_; rintro e w' ⟨rfl, hH2, hB2⟩))
        go_roundw
        case rel => exact ⟨k + 1, n + 1, by omega, by go_num, by omega, hB1.trans hB2, by rw [hv.out]; exact hH2⟩
        case measure => simp [intOf]; omega
      have h1 : 0 ≤ idxC x.codes s.code := by omega
      by_cases h2 : idxC x.once s.code < 0
      · have hv : Hid (subsP x index tag l (k + 1) = subsP x index tag l k) := by
          show subsP x index tag l (k + 1) = _
          rw [subsP_succ, subP_none es h1 h2, List.append_nil]
        have ES := Lib.hid es
        clear es
        have d1 := dec_f (p := 0 ≤ idxC x.once s.code) (by omega)
        go_wp2_with (go_at_call 35; refine (idx_any _ _ _).mono ?_; rintro e w' ⟨rfl, rfl⟩)
        go_quiet ((go_at_call 35; exact Calls.quiet_of_same (idx_q _ _ _)))
        go_wp2
        go_roundw
        case rel => exact ⟨k + 1, n, by omega, by go_num, by omega, below_drewN hB1 _, by rw [hv.out]; exact hH1.out.far (below_drewN (Below.refl _ _) _)⟩
        case measure => simp [intOf]; omega
      have h2 : 0 ≤ idxC x.once s.code := by omega
      have hcar := Lib.hid (fun W hW => carries_any b 0 k cap l s.code W (Nat.lt_of_lt_of_le hb (Below.size hW)) (HC.out.below hW hb) (Nat.le_of_lt hlt) (by omega))
      cases h3 : hasS s.code (l.take k) with
      | false =>
        have hv : Hid (subsP x index tag l (k + 1) = subsP x index tag l k) := by
          show subsP x index tag l (k + 1) = _
          rw [subsP_succ, subP_first es h1 h3, List.append_nil]
        have ES := Lib.hid es
        rw [h3] at hcar
        clear es h3
        go_wp2_with (go_at_call 35; refine (idx_any _ _ _).mono ?_; rintro e w' ⟨rfl, rfl⟩)
        obtain ⟨q3, q4, q5, q6, g0, g2, g3, j0⟩ := fieldW_cells hB1
        have t0 : (wr.alloc (.cells #[.int .u8 s.code, .string s.value] 54)).cell? ⟨wr.heap.size, 0, none⟩ = some (.int .u8 s.code) := by go_simp
        have hbW := holds_below hB1
        have hH2 := hH1.out
        clear b3 b4 b5 b6 f0 f2 f3 i0 c0 c1 hH1
        generalize hW1 : wr.alloc (.cells #[.int .u8 s.code, .string s.value] 54) = W1 at *
        have hg1 : wr.heap.size < W1.heap.size := by rw [← hW1]; simp
        clear hW1
        have hk1 : k ≤ cap := by omega
        have hk2 : (k : Int) ≤ (cap : Int) := by omega
        have hk3 : ¬ (cap : Int) < (k : Int) := by omega
        refine wp_region_still_tail 13 (by kernel_rfl) (by kernel_rfl) ?_
        simp only [List.take_succ_cons, List.take_zero, List.drop_succ_cons, List.drop_zero]
        change wpStill Tryd.prog _ W1.drew _ _ _
        repeat still_step
        still_call (idx_q _ _ _)
        repeat still_step
        refine wpStill_nil ?_
        change wpList _ _ _ _ _ W1.drew
        have hs1 : w.heap.size + 1 + 1 + 1 ≤ W1.heap.size := by have := hB1.size; rw [fieldW_size] at this; omega
        go_wp2_with (go_at_call 36; refine (hcar.out _ hbW.drew).mono ?_; rintro e w2 ⟨rfl, hb9⟩)
        go_roundw
        case rel => exact ⟨k + 1, n, by omega, by go_num, by omega, hB1.drew.trans (hb9.mono hs1), by rw [hv.out]; exact (hH2.far (Below.refl _ _).drew).far hb9⟩
        case measure => simp [intOf]; omega
      | true =>
        have hv : Hid (subsP x index tag l (k + 1) = subsP x index tag l k ++ prob 5 index tag s.code) := by
          show subsP x index tag l (k + 1) = _
          rw [subsP_succ, subP_again es h1 h2 h3]
        have ES := Lib.hid es
        rw [h3] at hcar
        clear es h3
        go_wp2_with (go_at_call 35; refine (idx_any _ _ _).mono ?_; rintro e w' ⟨rfl, rfl⟩)
        obtain ⟨q3, q4, q5, q6, g0, g2, g3, j0⟩ := fieldW_cells hB1
        have t0 : (wr.alloc (.cells #[.int .u8 s.code, .string s.value] 54)).cell? ⟨wr.heap.size, 0, none⟩ = some (.int .u8 s.code) := by go_simp
        have hbW := holds_below hB1
        have hH2 := hH1.out
        clear b3 b4 b5 b6 f0 f2 f3 i0 c0 c1 hH1
        generalize hW1 : wr.alloc (.cells #[.int .u8 s.code, .string s.value] 54) = W1 at *
        have hg1 : wr.heap.size < W1.heap.size := by rw [← hW1]; simp
        clear hW1
        have hk1 : k ≤ cap := by omega
        have hk2 : (k : Int) ≤ (cap : Int) := by omega
        have hk3 : ¬ (cap : Int) < (k : Int) := by omega
        refine wp_region_still_tail 13 (by kernel_rfl) (by kernel_rfl) ?_
        simp only [List.take_succ_cons, List.take_zero, List.drop_succ_cons, List.drop_zero]
        change wpStill Tryd.prog _ W1.drew _ _ _
        repeat still_step
        still_call (idx_q _ _ _)
        repeat still_step
        refine wpStill_nil ?_
        change wpList _ _ _ _ _ W1.drew
        have hs1 : w.heap.size + 1 + 1 + 1 ≤ W1.heap.size := by have := hB1.size; rw [fieldW_size] at this; omega
        have hadd := Lib.hid (fun (w2 : World) (hb9 : Below W1.drew.heap.size W1.drew w2) => (add_any (w.heap.size + 1 + 1 + 1) n (w.heap.size + 1 + 1) (w.heap.size + 1) (subsP x index tag l k) 5 index s.code tag w2 (by omega) (Nat.lt_of_lt_of_le (Nat.lt_of_lt_of_le n3 (Nat.le_of_lt hg1)) hb9.size) ((hH2.far (Below.refl _ _).drew).far hb9) (fieldW_cells (hB1.drew.trans (hb9.mono hs1))).2.2.2.2.2.2.2 (fieldW_cells (hB1.drew.trans (hb9.mono hs1))).2.2.2.2.1))
        go_wp2_with (first | (go_at_call 36; refine (hcar.out _ hbW.drew).mono ?_; rintro e w2 ⟨rfl, hb9⟩; have t2 := (hb9.cell (p := ⟨wr.heap.size, 0, none⟩) hg1).trans t0) | (go_at_call 34; refine (hadd.out _ hb9).mono ?_; rintro e w3 ⟨rfl, hH3, hB3⟩))
        go_roundw
        case rel => exact ⟨k + 1, n + 1, by omega, by go_num, by omega, (hB1.drew.trans (hb9.mono hs1)).trans hB3, by rw [hv.out]; exact hH3⟩
        case measure => simp [intOf]; omega
    · obtain rfl : k = l.length := by omega
      have hn9 : x.needs.size ≤ 9223372036854775807 := by omega
      obtain ⟨wo, rfl⟩ : ∃ wo : World, wo = wr := ⟨_, rfl⟩
      go_wp2
      go_loopw [11, 54] (fun _ i wr => ∃ k n : Nat, k ≤ x.needs.size ∧ i = .int .i64 k ∧ n ≤ l.length + k ∧ Below (w.heap.size + 1 + 1 + 1) (fieldW w x tag ind b l.length cap index) wr ∧ Holds wr (w.heap.size + 1 + 1 + 1) n (subsP x index tag l l.length ++ needsP x index tag l k)) (fun _ i _ => x.needs.size - (intOf i).toNat)
      case atStart => exact ⟨0, n, Nat.zero_le _, rfl, by omega, hB, by rw [show needsP x index tag l 0 = [] from rfl, List.append_nil]; exact hH⟩
      case round =>
        clear hB hH b3 b4 b5 b6 f0 f2 f3 i0 hsz hbw hlt hnk hk
        obtain ⟨j, m, hj, rfl, hmj, hB, hH⟩ := hrel
        obtain ⟨b3, b4, b5, b6, f0, f2, f3, i0⟩ := fieldW_cells hB
        have hsz : w.heap.size + 4 ≤ wr.heap.size := by have := hB.size; rw [fieldW_size] at this; exact this
        have hbw := holds_below hB
        have hH2 := Lib.hid hH
        clear hH
        by_cases hlt : j < x.needs.size
        · have e0 : (0 : Int) ≤ (j : Int) := by omega
          have e1 : (j : Int) < (x.needs.size : Int) := by omega
          have hcar := Lib.hid (fun W hW => carries_any b 0 l.length cap l (x.needs[j].toNat : Int) W (Nat.lt_of_lt_of_le hb (Below.size hW)) (HC.out.below hW hb) (Nat.le_refl _) (by omega))
          rw [List.take_length] at hcar
          have hs1 : w.heap.size + 1 + 1 + 1 ≤ wr.heap.size := by omega
          cases h3 : hasS (x.needs[j].toNat : Int) l with
          | true =>
            have hv : Hid (needsP x index tag l (j + 1) = needsP x index tag l j) := by
              show needsP x index tag l (j + 1) = _
              rw [needsP_succ, needP, needC_at _ _ hlt, h3]; simp
            rw [h3] at hcar
            clear h3
            go_wp2
            refine wp_region_still_tail 6 (by kernel_rfl) (by kernel_rfl) ?_
            simp only [List.take_succ_cons, List.take_zero, List.drop_succ_cons, List.drop_zero]
            change wpStill Tryd.prog _ wr.drew _ _ _
            repeat still_step
            refine wpStill_nil ?_
            change wpList _ _ _ _ _ wr.drew
            go_wp2_with (go_at_call 36; refine (hcar.out _ hbw.drew).mono ?_; rintro e w2 ⟨rfl, hb9⟩)
            go_roundw
            case rel => exact ⟨j + 1, m, by omega, by go_num, by omega, hB.drew.trans (hb9.mono hs1), by rw [hv.out]; exact (hH2.out.far (Below.refl _ _).drew).far hb9⟩
            case measure => simp [intOf]; omega
          | false =>
            have hv : Hid (needsP x index tag l (j + 1) = needsP x index tag l j ++ prob 6 index tag (x.needs[j].toNat : Int)) := by
              show needsP x index tag l (j + 1) = _
              rw [needsP_succ, needP, needC_at _ _ hlt, h3]; simp
            rw [h3] at hcar
            clear h3
            have hadd := Lib.hid (fun (w2 : World) (hb9 : Below wr.drew.heap.size wr.drew w2) => (add_any (w.heap.size + 1 + 1 + 1) m (w.heap.size + 1 + 1) (w.heap.size + 1) (subsP x index tag l l.length ++ needsP x index tag l j) 6 index (x.needs[j].toNat : Int) tag w2 (by omega) (Nat.lt_of_lt_of_le (show w.heap.size + 1 + 1 + 1 < wr.drew.heap.size from hsz) hb9.size) ((hH2.out.far (Below.refl _ _).drew).far hb9) (fieldW_cells (hB.drew.trans (hb9.mono hs1))).2.2.2.2.2.2.2 (fieldW_cells (hB.drew.trans (hb9.mono hs1))).2.2.2.2.1))
            go_wp2
            refine wp_region_still_tail 6 (by kernel_rfl) (by kernel_rfl) ?_
            simp only [List.take_succ_cons, List.take_zero, List.drop_succ_cons, List.drop_zero]
            change wpStill Tryd.prog _ wr.drew _ _ _
            repeat still_step
            refine wpStill_nil ?_
            change wpList _ _ _ _ _ wr.drew
            go_wp2_with (first | (go_at_call 36; refine (hcar.out _ hbw.drew).mono ?_; rintro e w2 ⟨rfl, hb9⟩; have p5 := (fieldW_cells (hB.drew.trans (hb9.mono hs1))).2.2.1) | (go_at_call 34; refine (hadd.out _ hb9).mono ?_; rintro e w3 ⟨rfl, hH3, hB3⟩))
            go_roundw
            case rel => exact ⟨j + 1, m + 1, by omega, by go_num, by omega, (hB.drew.trans (hb9.mono hs1)).trans hB3, by rw [hv.out, ← List.append_assoc]; exact hH3⟩
            case measure => simp [intOf]; omega
        · obtain rfl : j = x.needs.size := by omega
          obtain ⟨v, hv1, hv2, hv3⟩ := hH2.out
          go_wp2
          go_ret
          exact ⟨v, m, rfl, by omega, own_mono hv3 (by omega), hbw⟩
end Go.Proofs.YtgpmbkbhkjepgaaDoor
