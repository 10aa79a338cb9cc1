/-
  THE WALK OF rules.Check at a record with one field that its rule does not let repeat and that is linked to no authority: it returns the problems that the rules find; what lay in memory lies there still. Conditions: the rules, the field and its subfields lie in memory as told.
-/
import Derived.Test.YtgpmbkbhkjepgaaDoorChkD
namespace Go.Proofs.YtgpmbkbhkjepgaaDoor
open Go.RowKit

theorem subP_one (x : Rule) (index : Int) (tag : ByteArray) (l : List Sub) (k : Nat) : ∀ u ∈ subP x index tag l k, u.oneCell' = true := by
  intro u hu
  unfold subP at hu
  split at hu
  · exact prob_one _ _ _ _ u hu
  · split at hu
    · exact prob_one _ _ _ _ u hu
    · cases hu
theorem needP_one (x : Rule) (index : Int) (tag : ByteArray) (l : List Sub) (k : Nat) : ∀ u ∈ needP x index tag l k, u.oneCell' = true := by
  intro u hu
  unfold needP at hu
  split at hu
  · cases hu
  · exact prob_one _ _ _ _ u hu
theorem fieldP_one (x : Rule) (index : Int) (tag : ByteArray) (l : List Sub) : ∀ u ∈ fieldP x index tag l, u.oneCell' = true := by
  intro u hu
  unfold fieldP subsP needsP at hu
  rw [List.mem_append, List.mem_flatMap, List.mem_flatMap] at hu
  rcases hu with ⟨k, _, h⟩ | ⟨k, _, h⟩
  · exact subP_one _ _ _ _ _ u h
  · exact needP_one _ _ _ _ _ u h

set_option maxRecDepth 100000 in
set_option maxHeartbeats 4000000 in
theorem check_one (b c bf cf bs cap : Nat) (rs : List Rule) (x : Rule) (tag ind : ByteArray) (l : List Sub) (i1 i2 i3 : Int) (lang : ByteArray) (w : World) (hb : b < w.heap.size) (hbf : bf < w.heap.size) (hbs : bs < w.heap.size) (hc : RulesAt w b 0 rs)
    (hF : FldsAt w bf 0 [⟨tag, ind, .slice (some ⟨bs, 0, none⟩) l.length cap, 0⟩]) (hS : SubsAt w bs 0 l) (hle : rs.length ≤ 60) (hl : l.length ≤ 60) (hcap : l.length ≤ cap) (hnd : x.needs.size ≤ 100) (hx : findI tag rs = some x) (hrep : x.rep = false) :
    Calls Tryd.prog 21 #[.slice (some ⟨b, 0, none⟩) rs.length c, .agg #[.int .i64 i1, .int .i64 i2, .int .i64 i3, .string lang, .slice (some ⟨bf, 0, none⟩) 1 cf]] w
      fun e w' => ∃ v n, e = .returned v ∧ w'.ownsRow w.heap.size 44 4 v n (missP rs [⟨tag, ind, .slice (some ⟨bs, 0, none⟩) l.length cap, 0⟩] ++ fieldP x 0 tag l) ∧ Below w.heap.size w w' := by
  have HFS := Lib.hid hF
  have HSS := Lib.hid hS
  have HX := Lib.hid hx
  have HREP := Lib.hid hrep
  clear hS hx hrep
  have HC := Lib.hid hc
  obtain ⟨i0, hi0, hz0, hz1, hz2⟩ := info_parts info44
  have HAS : Hid (∀ (W : World) (t : ByteArray), Below w.heap.size w W → Calls Tryd.prog 28 #[.slice (some ⟨bf, 0, none⟩) 1 cf, .string t] W fun e w' => e = .returned (.bool (hasF t [⟨tag, ind, .slice (some ⟨bs, 0, none⟩) l.length cap, 0⟩])) ∧ Below W.heap.size W w') := by
    intro W t hW
    have := has_any_at bf 0 1 cf [⟨tag, ind, .slice (some ⟨bs, 0, none⟩) l.length cap, 0⟩] t W (Nat.lt_of_lt_of_le hbf hW.size) (hF.below hW hbf) (Nat.le_refl _) (by omega)
    exact this
  clear hc hF
  go_enter Tryd.func21, Tryd.ntmps21
  go_wp2
  go_loopw [5, 7, 14] (fun v _ i wr => ∃ k n : Nat, k ≤ rs.length ∧ i = .int .i64 k ∧ n ≤ k ∧ Below (w.heap.size + 1) (w.alloc (.cells #[.int .i64 i1, .int .i64 i2, .int .i64 i3, .string lang, .slice (some ⟨bf, 0, none⟩) 1 cf] 36)) wr ∧ Hid (wr.ownsRow (w.heap.size + 1) 44 4 v n (missP (rs.take k) [⟨tag, ind, .slice (some ⟨bs, 0, none⟩) l.length cap, 0⟩]))) (fun _ _ i _ => rs.length - (intOf i).toNat)
  case atStart => exact ⟨0, 0, Nat.zero_le _, rfl, Nat.le_refl _, Below.refl _ _, World.ownsRow_nil _ _ _ _⟩
  case round =>
    obtain ⟨k, n, hk, rfl, hnk, hB, hO⟩ := hrel
    have r4 := recW_cells hB
    have hsz : w.heap.size + 1 ≤ wr.heap.size := by have := hB.size; simp at this; exact this
    have hbw := recW_below hB
    by_cases hlt : k < rs.length
    · obtain ⟨c0, c1, c2, c3, c4, c5, c6⟩ := (HC.out.below hbw hb).at_ k hlt
      rw [Nat.zero_add] at c0 c1 c2 c3 c4 c5 c6
      obtain ⟨r, er⟩ : ∃ r, r = rs[k]! := ⟨_, rfl⟩
      rw [← er] at c0 c1 c2 c3 c4 c5 c6
      have hn := missP_next rs [⟨tag, ind, .slice (some ⟨bs, 0, none⟩) l.length cap, 0⟩] k hlt
      rw [← er] at hn
      have hbb : b < wr.heap.size := by omega
      have hne : b ≠ wr.heap.size := by omega
      have n0 : w.heap.size < wr.heap.size := by omega
      have hB1 : Below (w.heap.size + 1) (w.alloc (.cells #[.int .i64 i1, .int .i64 i2, .int .i64 i3, .string lang, .slice (some ⟨bf, 0, none⟩) 1 cf] 36)) (wr.alloc (.cells #[.string r.tag, .bool r.rep, .bool r.must, .string r.codes, .string r.once, .string r.needs, .int .i64 r.auth] 25)) := hB.alloc hsz _
      have hb1 := recW_below hB1
      clear er
      cases hm : r.must with
      | false =>
        have hv : Hid (missP (rs.take (k + 1)) [⟨tag, ind, .slice (some ⟨bs, 0, none⟩) l.length cap, 0⟩] = missP (rs.take k) [⟨tag, ind, .slice (some ⟨bs, 0, none⟩) l.length cap, 0⟩]) := by
          show missP (rs.take (k + 1)) [⟨tag, ind, .slice (some ⟨bs, 0, none⟩) l.length cap, 0⟩] = _
          rw [hn, miss_not hm, List.append_nil]
        rw [hm] at c2 hB1
        clear hn hm
        go_wp2
        go_roundw
        case rel => exact ⟨k + 1, n, by omega, by go_num, by omega, hB1, by rw [hv.out]; exact hO.out.alloc _⟩
        case measure => simp [intOf]; omega
      | true =>
        cases hf : hasF r.tag [⟨tag, ind, .slice (some ⟨bs, 0, none⟩) l.length cap, 0⟩] with
        | true =>
          have hv : Hid (missP (rs.take (k + 1)) [⟨tag, ind, .slice (some ⟨bs, 0, none⟩) l.length cap, 0⟩] = missP (rs.take k) [⟨tag, ind, .slice (some ⟨bs, 0, none⟩) l.length cap, 0⟩]) := by
            show missP (rs.take (k + 1)) [⟨tag, ind, .slice (some ⟨bs, 0, none⟩) l.length cap, 0⟩] = _
            rw [hn, miss_has hf, List.append_nil]
          have hcall := HAS.out _ r.tag hb1
          rw [hf, hm] at hcall
          have hcall' := Lib.hid hcall
          rw [hm] at c2 hB1
          clear hn hm hf hcall
          go_wp2_with (go_at_call 28; refine hcall'.out.mono ?_; rintro e w2 ⟨rfl, hb9⟩)
          go_roundw
          case rel => exact ⟨k + 1, n, by omega, by go_num, by omega, hB1.trans (hb9.mono (by simp; omega)), by rw [hv.out]; exact own_far (hO.out.alloc _) hb9⟩
          case measure => simp [intOf]; omega
        | false =>
          have hv : Hid (missP (rs.take (k + 1)) [⟨tag, ind, .slice (some ⟨bs, 0, none⟩) l.length cap, 0⟩] = missP (rs.take k) [⟨tag, ind, .slice (some ⟨bs, 0, none⟩) l.length cap, 0⟩] ++ prob 1 (-1) r.tag 0) := by
            show missP (rs.take (k + 1)) [⟨tag, ind, .slice (some ⟨bs, 0, none⟩) l.length cap, 0⟩] = _
            rw [hn, miss_lack hm hf]
          have hcall := HAS.out _ r.tag hb1
          rw [hf, hm] at hcall
          have hcall' := Lib.hid hcall
          rw [hm] at c2 hB1
          clear hn hf hcall hm
          go_wp2_with (first | (go_at_call 28; refine hcall'.out.mono ?_; rintro e w2 ⟨rfl, hb9⟩; have x0 : w2.cell? ⟨wr.heap.size, 0, none⟩ = some (.string r.tag) := (hb9.cell (p := ⟨wr.heap.size, 0, none⟩) (by simp)).trans (by go_simp); have hB2 := hB1.trans (hb9.mono (by simp; omega)); have hO2 := own_far (hO.out.alloc _) hb9; have hs2 : w.heap.size + 1 ≤ w2.heap.size := (by have := hB2.size; simp at this; exact this)) | (at_builtin; refine wpList_append_own _ rfl _ _ 45 rfl (w.heap.size + 1) 44 i0 _ 4 40 Tryd.underlying45 hi0 hz0 hz1 hz2 rfl (by decide) _ _ _ rfl (hO2.alloc _) ⟨w2.heap.size, 0, none⟩ 1 1 (prob 1 (-1) r.tag 0) rfl ?c1 ?c2 ?c3 ?c4 ?c5 ?c6 ?_))
          case c1 => rfl
          case c2 =>
            intro j u hj
            rw [Addr.add_lit, cell_of_row _ _ _ _ _ _ (heap_alloc_new w2 _), Nat.zero_add]
            simpa [prob] using hj
          case c3 => exact prob_one _ _ _ _
          case c4 => unfold maxLen; omega
          case c5 => omega
          case c6 => simp; omega
          intro v' w3 hown3 hgrow _
          have hB3 := (hB2.alloc hs2 _).grown hgrow (by simp; omega) (fun k hk => (hO2.lt k hk).1)
          go_wp2
          go_roundw
          case rel => exact ⟨k + 1, n + 1, by omega, by go_num, by omega, hB3, by rw [hv.out]; exact hown3⟩
          case measure => simp [intOf]; omega
    · obtain rfl : k = rs.length := by omega
      rw [List.take_length] at hO
      obtain ⟨wo, rfl⟩ : ∃ wo : World, wo = wr := ⟨_, rfl⟩
      have HFIND : Hid (∀ W : World, Below w.heap.size w W → Calls Tryd.prog 6 #[.slice (some ⟨b, 0, none⟩) rs.length c, .string tag] W fun e w' => e = .returned (.tuple #[.agg #[.string x.tag, .bool false, .bool x.must, .string x.codes, .string x.once, .string x.needs, .int .i64 x.auth], .bool true]) ∧ Below W.heap.size W w') := by
        intro W hW
        have := find_any b 0 c rs tag W (Nat.lt_of_lt_of_le hb hW.size) (HC.out.below hW hb) (by omega)
        rw [HX.out] at this
        simp only [foundV, HREP.out] at this
        exact this
      have HHAS : Hid (∀ W : World, Below w.heap.size w W → Calls Tryd.prog 28 #[.slice (some ⟨bf, 0, none⟩) 0 cf, .string tag] W fun e w' => e = .returned (.bool false) ∧ Below W.heap.size W w') := by
        intro W hW
        exact has_any_at bf 0 0 cf [⟨tag, ind, .slice (some ⟨bs, 0, none⟩) l.length cap, 0⟩] tag W (Nat.lt_of_lt_of_le hbf hW.size) (HFS.out.below hW hbf) (by simp) (by omega)
      have HFLD : Hid (∀ W : World, Below w.heap.size w W → Calls Tryd.prog 29 #[.agg #[.string x.tag, .bool false, .bool x.must, .string x.codes, .string x.once, .string x.needs, .int .i64 x.auth], .agg #[.string tag, .string ind, .slice (some ⟨bs, 0, none⟩) l.length cap, .int .i64 0], .int .i64 0] W
          fun e w' => ∃ v n, e = .returned v ∧ n ≤ 160 ∧ w'.ownsRow W.heap.size 44 4 v n (fieldP x 0 tag l) ∧ Below W.heap.size W w') := by
        intro W hW
        have := field_any x tag ind bs cap l 0 W (Nat.lt_of_lt_of_le hbs hW.size) (HSS.out.below hW hbs) hl hcap hnd
        rw [HREP.out] at this
        exact this
      go_wp2
      go_loopw [5, 8, 9, 10, 11, 38] (fun v _ _ _ _ i wr => ∃ k m : Nat, k ≤ 1 ∧ i = .int .i64 k ∧ m ≤ 60 + k * 160 ∧ Below (w.heap.size + 1) (w.alloc (.cells #[.int .i64 i1, .int .i64 i2, .int .i64 i3, .string lang, .slice (some ⟨bf, 0, none⟩) 1 cf] 36)) wr ∧ Hid (wr.ownsRow (w.heap.size + 1) 44 4 v m (if k = 0 then missP rs [⟨tag, ind, .slice (some ⟨bs, 0, none⟩) l.length cap, 0⟩] else missP rs [⟨tag, ind, .slice (some ⟨bs, 0, none⟩) l.length cap, 0⟩] ++ fieldP x 0 tag l))) (fun _ _ _ _ _ i _ => 1 - (intOf i).toNat)
      case atStart => exact ⟨0, n, by omega, rfl, by omega, hB, hO⟩
      case round =>
        clear hB hO r4 hsz hbw
        obtain ⟨k, m, hk, rfl, hm, hB, hO⟩ := hrel
        have r4 := recW_cells hB
        have hsz : w.heap.size + 1 ≤ wr.heap.size := by have := hB.size; simp at this; exact this
        have hbw := recW_below hB
        rcases Nat.eq_zero_or_pos k with h0 | h0
        · subst h0
          rw [if_pos rfl] at hO
          obtain ⟨c0, c1, c2, c3⟩ : wr.cell? ⟨bf, 0, none⟩ = some (.string tag) ∧ wr.cell? ⟨bf, 1, none⟩ = some (.string ind) ∧ wr.cell? ⟨bf, 2, none⟩ = some (.slice (some ⟨bs, 0, none⟩) l.length cap) ∧ wr.cell? ⟨bf, 3, none⟩ = some (.int .i64 0) :=
            ⟨HFS.out.below hbw hbf 0 (by simp) 0 _ rfl, HFS.out.below hbw hbf 0 (by simp) 1 _ rfl, HFS.out.below hbw hbf 0 (by simp) 2 _ rfl, HFS.out.below hbw hbf 0 (by simp) 3 _ rfl⟩
          have hfb : bf < wr.heap.size := by omega
          have n0 : w.heap.size < wr.heap.size := by omega
          have hB1 : Below (w.heap.size + 1) (w.alloc (.cells #[.int .i64 i1, .int .i64 i2, .int .i64 i3, .string lang, .slice (some ⟨bf, 0, none⟩) 1 cf] 36)) (wr.alloc (.cells #[.string tag, .string ind, .slice (some ⟨bs, 0, none⟩) l.length cap, .int .i64 0] 52)) := hB.alloc hsz _
          have hcall := Lib.hid (HFIND.out _ (recW_below hB1))
          go_wp2_with (go_at_call 6; refine hcall.out.mono ?_; rintro e w2 ⟨rfl, hb9⟩)
          have hb3 : Below (wr.alloc (.cells #[.string tag, .string ind, .slice (some ⟨bs, 0, none⟩) l.length cap, .int .i64 0] 52)).heap.size (wr.alloc (.cells #[.string tag, .string ind, .slice (some ⟨bs, 0, none⟩) l.length cap, .int .i64 0] 52)) (w2.alloc (.cells #[.string x.tag, .bool false, .bool x.must, .string x.codes, .string x.once, .string x.needs, .int .i64 x.auth] 25)) := hb9.alloc hb9.size _
          have hO3 := own_far (hO.out.alloc _) hb3
          have hB3 := hB1.trans (hb3.mono (by simp; omega))
          have q0 : (w2.alloc (.cells #[.string x.tag, .bool false, .bool x.must, .string x.codes, .string x.once, .string x.needs, .int .i64 x.auth] 25)).cell? ⟨wr.heap.size, 0, none⟩ = some (.string tag) := (hb3.cell (p := ⟨wr.heap.size, 0, none⟩) (by simp)).trans (by go_simp)
          have q1 : (w2.alloc (.cells #[.string x.tag, .bool false, .bool x.must, .string x.codes, .string x.once, .string x.needs, .int .i64 x.auth] 25)).cell? ⟨wr.heap.size, 1, none⟩ = some (.string ind) := (hb3.cell (p := ⟨wr.heap.size, 1, none⟩) (by simp)).trans (by go_simp)
          have q2 : (w2.alloc (.cells #[.string x.tag, .bool false, .bool x.must, .string x.codes, .string x.once, .string x.needs, .int .i64 x.auth] 25)).cell? ⟨wr.heap.size, 2, none⟩ = some (.slice (some ⟨bs, 0, none⟩) l.length cap) := (hb3.cell (p := ⟨wr.heap.size, 2, none⟩) (by simp)).trans (by go_simp)
          have q3 : (w2.alloc (.cells #[.string x.tag, .bool false, .bool x.must, .string x.codes, .string x.once, .string x.needs, .int .i64 x.auth] 25)).cell? ⟨wr.heap.size, 3, none⟩ = some (.int .i64 0) := (hb3.cell (p := ⟨wr.heap.size, 3, none⟩) (by simp)).trans (by go_simp)
          have y0 : (w2.alloc (.cells #[.string x.tag, .bool false, .bool x.must, .string x.codes, .string x.once, .string x.needs, .int .i64 x.auth] 25)).cell? ⟨w2.heap.size, 0, none⟩ = some (.string x.tag) := by go_simp
          have y1 : (w2.alloc (.cells #[.string x.tag, .bool false, .bool x.must, .string x.codes, .string x.once, .string x.needs, .int .i64 x.auth] 25)).cell? ⟨w2.heap.size, 1, none⟩ = some (.bool false) := by go_simp
          have y2 : (w2.alloc (.cells #[.string x.tag, .bool false, .bool x.must, .string x.codes, .string x.once, .string x.needs, .int .i64 x.auth] 25)).cell? ⟨w2.heap.size, 2, none⟩ = some (.bool x.must) := by go_simp
          have y3 : (w2.alloc (.cells #[.string x.tag, .bool false, .bool x.must, .string x.codes, .string x.once, .string x.needs, .int .i64 x.auth] 25)).cell? ⟨w2.heap.size, 3, none⟩ = some (.string x.codes) := by go_simp
          have y4 : (w2.alloc (.cells #[.string x.tag, .bool false, .bool x.must, .string x.codes, .string x.once, .string x.needs, .int .i64 x.auth] 25)).cell? ⟨w2.heap.size, 4, none⟩ = some (.string x.once) := by go_simp
          have y5 : (w2.alloc (.cells #[.string x.tag, .bool false, .bool x.must, .string x.codes, .string x.once, .string x.needs, .int .i64 x.auth] 25)).cell? ⟨w2.heap.size, 5, none⟩ = some (.string x.needs) := by go_simp
          have y6 : (w2.alloc (.cells #[.string x.tag, .bool false, .bool x.must, .string x.codes, .string x.once, .string x.needs, .int .i64 x.auth] 25)).cell? ⟨w2.heap.size, 6, none⟩ = some (.int .i64 x.auth) := by go_simp
          have s1 : wr.heap.size < (w2.alloc (.cells #[.string x.tag, .bool false, .bool x.must, .string x.codes, .string x.once, .string x.needs, .int .i64 x.auth] 25)).heap.size := by have := hb3.size; rw [World.size_alloc] at this; omega
          have s2 : w2.heap.size < (w2.alloc (.cells #[.string x.tag, .bool false, .bool x.must, .string x.codes, .string x.once, .string x.needs, .int .i64 x.auth] 25)).heap.size := by simp
          have hb4 := recW_below hB3
          have p4 := recW_cells hB3
          clear r4 c0 c1 c2 c3 hb3 hb9 hB hO hbw
          generalize hW3 : w2.alloc (.cells #[.string x.tag, .bool false, .bool x.must, .string x.codes, .string x.once, .string x.needs, .int .i64 x.auth] 25) = W3 at *
          clear hW3
          have hO4 := Lib.hid hO3
          clear hO3
          have hc0 : (0 : Int) ≤ (cf : Int) := by omega
          refine wp_region_still_tail 10 (by kernel_rfl) (by kernel_rfl) ?_
          simp only [List.take_succ_cons, List.take_zero, List.drop_succ_cons, List.drop_zero]
          change wpStill Tryd.prog _ W3.drew _ _ _
          repeat still_step
          refine wpStill_nil ?_
          change wpList _ _ _ _ _ W3.drew
          have hcall2 := Lib.hid (HHAS.out _ hb4.drew)
          have hs3 : w.heap.size + 1 ≤ W3.heap.size := by omega
          go_wp2_with (first | (go_at_call 28; refine hcall2.out.mono ?_; rintro e w4 ⟨rfl, hb5⟩; have z0 := (hb5.cell (p := ⟨wr.heap.size, 0, none⟩) s1).trans q0; have z1 := (hb5.cell (p := ⟨wr.heap.size, 1, none⟩) s1).trans q1; have z2 := (hb5.cell (p := ⟨wr.heap.size, 2, none⟩) s1).trans q2; have z3 := (hb5.cell (p := ⟨wr.heap.size, 3, none⟩) s1).trans q3; have v0 := (hb5.cell (p := ⟨w2.heap.size, 0, none⟩) s2).trans y0; have v1 := (hb5.cell (p := ⟨w2.heap.size, 1, none⟩) s2).trans y1; have v2 := (hb5.cell (p := ⟨w2.heap.size, 2, none⟩) s2).trans y2; have v3 := (hb5.cell (p := ⟨w2.heap.size, 3, none⟩) s2).trans y3; have v4 := (hb5.cell (p := ⟨w2.heap.size, 4, none⟩) s2).trans y4; have v5 := (hb5.cell (p := ⟨w2.heap.size, 5, none⟩) s2).trans y5; have v6 := (hb5.cell (p := ⟨w2.heap.size, 6, none⟩) s2).trans y6; have hb6 := hb4.drew.trans (hb5.mono (Nat.le_of_succ_le hs3)); have hcall3 := Lib.hid (HFLD.out _ hb6); have hO5 := Lib.hid (own_far (own_far hO4.out (Below.refl _ _).drew) hb5); have hB5 := hB3.drew.trans (hb5.mono hs3); have hs5 := Nat.le_trans hs3 hb5.size) | (go_at_call 29; refine hcall3.out.mono ?_; rintro e w5 ⟨v2, n2, rfl, hn2, hown2, hb7⟩; have hO6 := Lib.hid (own_far hO5.out hb7); have hown2 := Lib.hid hown2; have hs6 := Nat.le_trans hs5 hb7.size) | (at_builtin; refine wpList_append_src rfl _ _ 45 rfl (w.heap.size + 1) 44 i0 _ 4 40 Tryd.underlying45 hi0 hz0 hz1 hz2 rfl (by decide) _ _ _ rfl hO6.out _ v2 n2 _ rfl hown2.out ?c3 ?c4 ?c5 ?c6 ?_))
          case c3 => exact fieldP_one _ _ _ _
          case c4 => unfold maxLen; omega
          case c5 => omega
          case c6 => exact hs6
          intro v' w6 hown6 hgrow
          have hB6 := (hB5.trans (hb7.mono hs5)).grown hgrow hs6 (fun k hk => (hO6.out.lt k hk).1)
          have hown6' := Lib.hid hown6
          clear hown6
          go_wp2
          go_roundw
          case rel => exact ⟨1, m + n2, by omega, by go_num, by omega, hB6, by rw [if_neg (by omega)]; exact hown6'.out⟩
          case measure => simp [intOf]
        · obtain rfl : k = 1 := by omega
          rw [if_neg (by omega)] at hO
          go_wp2
          go_ret
          exact ⟨_, m, rfl, own_mono hO.out (Nat.le_succ _), recW_below hB⟩
end Go.Proofs.YtgpmbkbhkjepgaaDoor
