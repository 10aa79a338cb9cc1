/-
  THE WALK OF rules.Check at a record without fields and at a record with one field that its rule does not let repeat and that is linked to no authority: it returns the problems that the rules find; what lay in memory lies there still. Conditions: the rules, the field and its subfields lie in memory as told.
-/
import Derived.Test.YtgpmbkbhkjepgaaDoorChkC
import Derived.Laws.AppendOwnNone
namespace Go.Proofs.YtgpmbkbhkjepgaaDoor
open Go.RowKit

theorem own_far {w w' : World} {B : Nat} {e : TypeId} {size n : Nat} {v : Value} {xs : List Value} (h : w.ownsRow B e size v n xs) (hb : Below w.heap.size w w') : w'.ownsRow B e size v n xs :=
  h.kept (row := none) ⟨hb.os, hb.tape, hb.output, hb.size, fun k hk _ => hb.block k hk⟩ (by
    rcases h : v.ownBlock with _ | g
    · exact .inl rfl
    · exact .inr (by simp))

/-- append onto a row of the call's own, from another such row, nil or not. -/
theorem wpList_append_src {P : Program} {w : World} {ops : Array Oper} {rest : List Oper} {o : Oper} {a : Act} {Q : Exit → Act → World → Prop} (hgd : o.guard = none) (s x : Operand) (t : TypeId)
    (ho : o.op = .call { callee := .builtin .append, args := #[s, x], argTypes := #[t, t] })
    (base : Nat) (e : TypeId) (i : TypeInfo) (z : Value) (size bytes : Nat) (ht : P.underlying t = some (.slice e)) (hi : P.info? e = some i) (hz : i.zero = some z)
    (hsize : i.size = size) (hby : i.bytes = bytes) (hzs : z.cells.size = size) (hsz : 0 < size)
    (v : Value) (n : Nat) (xs : List Value) (hs : a.eval s = v) (hown : w.ownsRow base e size v n xs)
    (B : Nat) (vx : Value) (m : Nat) (news : List Value) (hx : a.eval x = vx) (hsrc : w.ownsRow B e size vx m news) (h1 : ∀ u ∈ news, u.oneCell' = true)
    (h63 : n + m ≤ maxLen) (hbytes : (n + m) * bytes ≤ 140737488355328) (hbase : base ≤ w.heap.size)
    (h : ∀ v' w', w'.ownsRow base e size v' (n + m) (xs ++ news) → w.grownBy w' v.ownBlock → wpList P ops Q rest (a.put o.dst v') w') : wpList P ops Q (o :: rest) a w := by
  rcases hsrc.2 with ⟨rfl, rfl⟩ | ⟨g, cap, cur, rfl, _⟩
  · have hn : news = [] := List.eq_nil_of_length_eq_zero (by simpa using hsrc.1)
    subst hn
    exact wpList_append_own_none hgd s x t ho base e i size ht hi v n xs hs hown hx (h v w (by simpa using hown) (World.grownBy.refl w _))
  · exact wpList_append_own w hgd s x t ho base e i z size bytes ht hi hz hsize hby hzs hsz v n xs hs hown ⟨g, 0, none⟩ m cap news hx hsrc.1 (hsrc.cells (g := g) rfl) h1 h63 hbytes hbase fun v' w' h2 h3 _ => h v' w' h2 h3

/-- The problem of a rule whose tag no field has. -/
def missOf (fs : List Fld) (r : Rule) : List Value := if r.must = true ∧ hasF r.tag fs = false then prob 1 (-1) r.tag 0 else []
def missP (rs : List Rule) (fs : List Fld) : List Value := rs.flatMap (missOf fs)
theorem missP_next (rs : List Rule) (fs : List Fld) (k : Nat) (hk : k < rs.length) : missP (rs.take (k + 1)) fs = missP (rs.take k) fs ++ missOf fs rs[k]! := by
  rw [missP, List.take_succ_eq_append_getElem hk, List.flatMap_append, getElem!_pos rs k hk]; simp [missP]
theorem miss_not {fs : List Fld} {r : Rule} (h : r.must = false) : missOf fs r = [] := by simp [missOf, h]
theorem miss_has {fs : List Fld} {r : Rule} (h : hasF r.tag fs = true) : missOf fs r = [] := by simp [missOf, h]
theorem miss_lack {fs : List Fld} {r : Rule} (h : r.must = true) (h2 : hasF r.tag fs = false) : missOf fs r = prob 1 (-1) r.tag 0 := by simp [missOf, h, h2]

/-- The record's box behind later calls. -/
theorem recW_cells {w wr : World} {i1 i2 i3 : Int} {lang : ByteArray} {F : Value} (hb : Below (w.heap.size + 1) (w.alloc (.cells #[.int .i64 i1, .int .i64 i2, .int .i64 i3, .string lang, F] 36)) wr) : wr.cell? ⟨w.heap.size, 4, none⟩ = some F := by
  rw [hb.cell (by simp)]; go_simp
theorem recW_below {w wr : World} {o : Obj} (hb : Below (w.heap.size + 1) (w.alloc o) wr) : Below w.heap.size w wr :=
  ((Below.refl _ _).alloc (Nat.le_refl _) o).trans (hb.mono (Nat.le_succ _))

set_option maxRecDepth 100000 in
set_option maxHeartbeats 2000000 in
theorem check_nil (b c : Nat) (rs : List Rule) (i1 i2 i3 : Int) (lang : ByteArray) (w : World) (hb : b < w.heap.size) (hc : RulesAt w b 0 rs) (hle : rs.length ≤ 60) :
    Calls Tryd.prog 21 #[.slice (some ⟨b, 0, none⟩) rs.length c, .agg #[.int .i64 i1, .int .i64 i2, .int .i64 i3, .string lang, .slice none 0 0]] w
      fun e w' => ∃ v n, e = .returned v ∧ w'.ownsRow w.heap.size 44 4 v n (missP rs []) ∧ Below w.heap.size w w' := by
  have HC := Lib.hid hc
  obtain ⟨i0, hi0, hz0, hz1, hz2⟩ := info_parts info44
  have HAS : Hid (∀ (W : World) (t : ByteArray), Below w.heap.size w W → Calls Tryd.prog 28 #[.slice none 0 0, .string t] W fun e w' => e = .returned (.bool (hasF t [])) ∧ Below W.heap.size W w') := fun W t _ => has_nil t W
  clear hc
  go_enter Tryd.func21, Tryd.ntmps21
  go_wp2
  go_loopw [5, 7, 14] (fun v _ i wr => ∃ k n : Nat, k ≤ rs.length ∧ i = .int .i64 k ∧ n ≤ k ∧ Below (w.heap.size + 1) (w.alloc (.cells #[.int .i64 i1, .int .i64 i2, .int .i64 i3, .string lang, .slice none 0 0] 36)) wr ∧ Hid (wr.ownsRow (w.heap.size + 1) 44 4 v n (missP (rs.take k) []))) (fun _ _ i _ => rs.length - (intOf i).toNat)
  case atStart => exact ⟨0, 0, Nat.zero_le _, rfl, Nat.le_refl _, Below.refl _ _, World.ownsRow_nil _ _ _ _⟩
  case round =>
    obtain ⟨k, n, hk, rfl, hnk, hB, hO⟩ := hrel
    have r4 := recW_cells hB
    have hsz : w.heap.size + 1 ≤ wr.heap.size := by have := hB.size; simp at this; exact this
    have hbw := recW_below hB
    by_cases hlt : k < rs.length
    · obtain ⟨c0, c1, c2, c3, c4, c5, c6⟩ := (HC.out.below hbw hb).at_ k hlt
      rw [Nat.zero_add] at c0 c1 c2 c3 c4 c5 c6
      obtain ⟨r, er⟩ : ∃ r, r = rs[k]! := ⟨_, rfl⟩
      rw [← er] at c0 c1 c2 c3 c4 c5 c6
      have hn := missP_next rs [] k hlt
      rw [← er] at hn
      have hbb : b < wr.heap.size := by omega
      have hne : b ≠ wr.heap.size := by omega
      have n0 : w.heap.size < wr.heap.size := by omega
      have hB1 : Below (w.heap.size + 1) (w.alloc (.cells #[.int .i64 i1, .int .i64 i2, .int .i64 i3, .string lang, .slice none 0 0] 36)) (wr.alloc (.cells #[.string r.tag, .bool r.rep, .bool r.must, .string r.codes, .string r.once, .string r.needs, .int .i64 r.auth] 25)) := hB.alloc hsz _
      have hb1 := recW_below hB1
      clear er
      cases hm : r.must with
      | false =>
        have hv : Hid (missP (rs.take (k + 1)) [] = missP (rs.take k) []) := by
          show missP (rs.take (k + 1)) [] = _
          rw [hn, miss_not hm, List.append_nil]
        rw [hm] at c2 hB1
        clear hn hm
        go_wp2
        go_roundw
        case rel => exact ⟨k + 1, n, by omega, by go_num, by omega, hB1, by rw [hv.out]; exact hO.out.alloc _⟩
        case measure => simp [intOf]; omega
      | true =>
        cases hf : hasF r.tag [] with
        | true =>
          have hv : Hid (missP (rs.take (k + 1)) [] = missP (rs.take k) []) := by
            show missP (rs.take (k + 1)) [] = _
            rw [hn, miss_has hf, List.append_nil]
          have hcall := HAS.out _ r.tag hb1
          rw [hf, hm] at hcall
          have hcall' := Lib.hid hcall
          rw [hm] at c2 hB1
          clear hn hm hf hcall
          go_wp2_with (go_at_call 28; refine hcall'.out.mono ?_; rintro e w2 ⟨rfl, hb9⟩)
          go_roundw
          case rel => exact ⟨k + 1, n, by omega, by go_num, by omega, hB1.trans (hb9.mono (by simp; omega)), by rw [hv.out]; exact own_far (hO.out.alloc _) hb9⟩
          case measure => simp [intOf]; omega
        | false =>
          have hv : Hid (missP (rs.take (k + 1)) [] = missP (rs.take k) [] ++ prob 1 (-1) r.tag 0) := by
            show missP (rs.take (k + 1)) [] = _
            rw [hn, miss_lack hm hf]
          have hcall := HAS.out _ r.tag hb1
          rw [hf, hm] at hcall
          have hcall' := Lib.hid hcall
          rw [hm] at c2 hB1
          clear hn hf hcall hm
          go_wp2_with (first | (go_at_call 28; refine hcall'.out.mono ?_; rintro e w2 ⟨rfl, hb9⟩; have x0 : w2.cell? ⟨wr.heap.size, 0, none⟩ = some (.string r.tag) := (hb9.cell (p := ⟨wr.heap.size, 0, none⟩) (by simp)).trans (by go_simp); have hB2 := hB1.trans (hb9.mono (by simp; omega)); have hO2 := own_far (hO.out.alloc _) hb9; have hs2 : w.heap.size + 1 ≤ w2.heap.size := (by have := hB2.size; simp at this; exact this)) | (at_builtin; refine wpList_append_own _ rfl _ _ 45 rfl (w.heap.size + 1) 44 i0 _ 4 40 Tryd.underlying45 hi0 hz0 hz1 hz2 rfl (by decide) _ _ _ rfl (hO2.alloc _) ⟨w2.heap.size, 0, none⟩ 1 1 (prob 1 (-1) r.tag 0) rfl ?c1 ?c2 ?c3 ?c4 ?c5 ?c6 ?_))
          case c1 => rfl
          case c2 =>
            intro j u hj
            rw [Addr.add_lit, cell_of_row _ _ _ _ _ _ (heap_alloc_new w2 _), Nat.zero_add]
            simpa [prob] using hj
          case c3 => exact prob_one _ _ _ _
          case c4 => unfold maxLen; omega
          case c5 => omega
          case c6 => simp; omega
          intro v' w3 hown3 hgrow _
          have hB3 := (hB2.alloc hs2 _).grown hgrow (by simp; omega) (fun k hk => (hO2.lt k hk).1)
          go_wp2
          go_roundw
          case rel => exact ⟨k + 1, n + 1, by omega, by go_num, by omega, hB3, by rw [hv.out]; exact hown3⟩
          case measure => simp [intOf]; omega
    · obtain rfl : k = rs.length := by omega
      rw [List.take_length] at hO
      obtain ⟨wo, rfl⟩ : ∃ wo : World, wo = wr := ⟨_, rfl⟩
      go_wp2
      go_loopw [5, 8, 9, 10, 11, 38] (fun v _ _ _ _ i wr => i = .int .i64 0 ∧ Below (w.heap.size + 1) (w.alloc (.cells #[.int .i64 i1, .int .i64 i2, .int .i64 i3, .string lang, .slice none 0 0] 36)) wr ∧ Hid (wr.ownsRow (w.heap.size + 1) 44 4 v n (missP rs []))) (fun _ _ _ _ _ _ _ => 0)
      case atStart => exact ⟨rfl, hB, hO⟩
      case round =>
        clear hB hO r4 hsz hbw
        obtain ⟨rfl, hB, hO⟩ := hrel
        go_wp2
        go_ret
        exact ⟨_, n, rfl, own_mono hO.out (Nat.le_succ _), recW_below hB⟩
end Go.Proofs.YtgpmbkbhkjepgaaDoor
