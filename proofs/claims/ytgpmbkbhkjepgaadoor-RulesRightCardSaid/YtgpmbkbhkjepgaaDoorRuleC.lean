/-
  THE WALK OF rules.Right: it returns the error of the list of rules; what lay in memory lies there still. Conditions: the list lies in memory as told, its texts hold 100 bytes at most.
-/
import Derived.Test.YtgpmbkbhkjepgaaDoorRuleB
import Derived.Deep.QuietTactic
import Derived.BigQuiet
namespace Go.Proofs.YtgpmbkbhkjepgaaDoor
open Go.RowKit

/-- The texts of a rule are short. -/
def Short (r : Rule) : Prop := r.tag.size ≤ 100 ∧ r.codes.size ≤ 100 ∧ r.once.size ≤ 100 ∧ r.needs.size ≤ 100

/-- A rule's box behind later calls. -/
theorem box_after {wr w1 : World} {r : Rule} (hb : Below (wr.heap.size + 1) (wr.alloc (.cells #[.string r.tag, .bool r.rep, .bool r.must, .string r.codes, .string r.once, .string r.needs, .int .i64 r.auth] 25)) w1) :
    w1.cell? ⟨wr.heap.size, 0, none⟩ = some (.string r.tag) ∧ w1.cell? ⟨wr.heap.size, 3, none⟩ = some (.string r.codes) ∧ w1.cell? ⟨wr.heap.size, 4, none⟩ = some (.string r.once) ∧
    w1.cell? ⟨wr.heap.size, 5, none⟩ = some (.string r.needs) ∧ w1.cell? ⟨wr.heap.size, 6, none⟩ = some (.int .i64 r.auth) := by
  refine ⟨?_, ?_, ?_, ?_, ?_⟩ <;> (rw [hb.cell (by simp)]; simp)
theorem tag_val {r : Rule} (hs : r.tag.size ≤ 100) {v : Bool} (h : tagB r.tag.data.toList = v) (W : World) : Calls Tryd.prog 22 #[.string r.tag] W fun e w' => e = .returned (.bool v) ∧ Below W.heap.size W w' := by
  rw [← h]; exact tag_any _ _ (by omega)
theorem list_val {s : ByteArray} (hs : s.size ≤ 100) {v : Bool} (h : codesB s.data.toList = v) (W : World) : Calls Tryd.prog 23 #[.string s] W fun e w' => e = .returned (.bool v) ∧ W = w' := by
  rw [← h]; exact list_any _ _ (by omega)
theorem within_val {s cs : ByteArray} (hs : s.size ≤ 100) (hcs : cs.size ≤ 100) (hok : codesB cs.data.toList = true) {v : Bool} (h : (codesB s.data.toList && inB cs.data.toList s.data.toList) = v) (W : World) :
    Calls Tryd.prog 24 #[.string s, .string cs] W fun e w' => e = .returned (.bool v) ∧ Below W.heap.size W w' := by
  rw [← h]; exact within_any _ _ _ (by omega) (by omega) hok

theorem below_drewN {B : Nat} {a w : World} (h : Below B a w) (n : Nat) : Below B a (w.drewN n) := ⟨h.os, h.tape, h.output, h.size, h.block⟩
/-- One call more, behind draws. -/
theorem more_below {B : Nat} {a w w' : World} (h : Below B a w) (hB : B ≤ a.heap.size) (n : Nat) (h2 : Below w.heap.size (w.drewN n) w') : Below B a w' :=
  (below_drewN h n).trans (h2.mono (Nat.le_trans hB h.size))
theorem more_below0 {B : Nat} {a w w' : World} (h : Below B a w) (hB : B ≤ a.heap.size) (h2 : Below w.heap.size w w') : Below B a w' :=
  h.trans (h2.mono (Nat.le_trans hB h.size))
theorem box_below {w wr : World} {o : Obj} (hB : Below w.heap.size w wr) {w1 : World} (h : Below (wr.heap.size + 1) (wr.alloc o) w1) : Below w.heap.size w w1 :=
  (hB.alloc hB.size _).trans (h.mono (Nat.le_succ_of_le hB.size))
theorem form_empty {r : Rule} (h : r.codes.toList = []) : formB r = false := by simp [formB, h]
theorem form_list {r : Rule} (h : codesB r.codes.data.toList = false) : formB r = false := by simp [formB, h]
theorem form_once {r : Rule} (h : (codesB r.once.data.toList && inB r.codes.data.toList r.once.data.toList) = false) : formB r = false := by rw [formB, h]; simp
theorem form_needs {r : Rule} (h : (codesB r.needs.data.toList && inB r.codes.data.toList r.needs.data.toList) = false) : formB r = false := by rw [formB, h]; simp
theorem form_ok {r : Rule} (h0 : ¬ r.codes.toList = []) (h1 : codesB r.codes.data.toList = true) (h2 : (codesB r.once.data.toList && inB r.codes.data.toList r.once.data.toList) = true)
    (h3 : (codesB r.needs.data.toList && inB r.codes.data.toList r.needs.data.toList) = true) : formB r = true := by rw [formB, h1, h2, h3]; simp [h0]
theorem twice_less {q r : Rule} (h : Op.bytesLess r.tag.toList q.tag.toList = true) : twiceB q r = true := by rw [twiceB, h]; rfl
theorem twice_same {q r : Rule} (h : (r.tag.toList == q.tag.toList) = true) : twiceB q r = true := by rw [twiceB, h]; simp
theorem twice_not {q r : Rule} (h : Op.bytesLess r.tag.toList q.tag.toList = false) (h2 : (r.tag.toList == q.tag.toList) = false) : twiceB q r = false := by rw [twiceB, h, h2]; rfl

set_option maxHeartbeats 4000000 in
theorem right_any (b off c : Nat) (rs : List Rule) (w : World) (hb : b < w.heap.size) (hc : RulesAt w b off rs) (hsh : ∀ j, j < rs.length → Short rs[j]!) (hbig : rs.length ≤ 65536) :
    Calls Tryd.prog 11 #[.slice (some ⟨b, off, none⟩) rs.length c] w fun e w' => e = .returned (.int .i64 (rightR rs)) ∧ Below w.heap.size w w' := by
  by_cases h32 : 32 < rs.length
  · have hv := Lib.hid (right_many rs h32)
    clear hc hsh
    go_enter Tryd.func11, Tryd.ntmps11
    go_wp2
    go_ret
    exact ⟨ret_int hv.out.symm, Below.refl _ w⟩
  have hle : rs.length ≤ 32 := by omega
  have HC := Lib.hid hc
  have HS := Lib.hid hsh
  clear hc hsh h32
  go_enter Tryd.func11, Tryd.ntmps11
  go_wp2
  go_loopw [3, 4, 10] (fun _ _ i wr => ∃ k : Nat, k ≤ rs.length ∧ i = .int .i64 k ∧ Below w.heap.size w wr ∧ Hid (∀ j, j < k → errW none rs j = 0)) (fun _ _ i _ => rs.length - (intOf i).toNat)
  case atStart => exact ⟨0, Nat.zero_le _, rfl, Below.refl _ w, fun j hj => absurd hj (Nat.not_lt_zero _)⟩
  case round =>
    obtain ⟨k, hk, rfl, hB, HZ⟩ := hrel
    by_cases hlt : k < rs.length
    · obtain ⟨c0, c1, c2, c3, c4, c5, c6⟩ := (HC.out.below hB hb).at_ k hlt
      obtain ⟨s0, s3, s4, s5⟩ := HS.out k hlt
      obtain ⟨r, er⟩ : ∃ r, r = rs[k]! := ⟨_, rfl⟩
      rw [← er] at c0 c1 c2 c3 c4 c5 c6 s0 s3 s4 s5
      have hbw : b < wr.heap.size := Nat.lt_of_lt_of_le hb hB.size
      have hne : b ≠ wr.heap.size := by omega
      cases ht : tagB r.tag.data.toList with
      | false =>
        have hv : Hid (rightR rs = 6) := by
          refine right_hit rs hle k 6 hlt HZ.out ?_ (by decide)
          cases k with
          | zero => rw [err_first rs r er]; exact errOf_tag _ _ ht
          | succ j => rw [err_later rs j r _ er rfl]; exact errOf_tag _ _ ht
        have CT := Lib.hid (tag_val s0 ht)
        clear ht er
        go_wp2_with (go_at_call 22; refine (CT.out _).mono ?_; rintro e w1 ⟨rfl, hb1⟩)
        go_ret
        exact ⟨ret_int hv.out.symm, (hB.alloc hB.size _).trans (hb1.mono (by simp; have := hB.size; omega))⟩
      | true =>
        have CT := Lib.hid (tag_val s0 ht)
        have HT := Lib.hid ht
        clear ht
        rcases Nat.eq_zero_or_pos k with h0 | h0
        · subst h0
          have ER := Lib.hid er
          clear er
          simp only [Nat.zero_mul, Nat.add_zero] at c0 c1 c2 c3 c4 c5 c6
          by_cases he : r.codes.toList = []
          · skip
            have hv : Hid (rightR rs = 3) := right_hit rs hle 0 3 hlt HZ.out (by rw [err_first rs r ER.out, errOf_first r HT.out]; exact rest_form r (form_empty he)) (by decide)
            go_wp2_with (go_at_call 22; refine (CT.out _).mono ?_; rintro e w1 ⟨rfl, hb0⟩; have hb1 := hb0.mono (Nat.le_of_eq (World.size_alloc _ _).symm); obtain ⟨x0, x3, x4, x5, x6⟩ := box_after hb1; have hw1 := box_below hB hb1)
            go_quiet (fail)
            go_wp2
            go_ret
            exact ⟨ret_int hv.out.symm, below_drewN hw1 _⟩
          have he2 : r.codes.toList.isEmpty = false := by simp [he]
          have HE := Lib.hid he
          clear he
          cases hl' : codesB r.codes.data.toList with
          | false =>
            have hl := Lib.hid hl'
            clear hl'
            have hv : Hid (rightR rs = 3) := right_hit rs hle 0 3 hlt HZ.out (by rw [err_first rs r ER.out, errOf_first r HT.out]; exact rest_form r (form_list hl.out)) (by decide)
            have CL := Lib.hid (list_val s3 hl.out)
            go_wp2_with (go_at_call 22; refine (CT.out _).mono ?_; rintro e w1 ⟨rfl, hb0⟩; have hb1 := hb0.mono (Nat.le_of_eq (World.size_alloc _ _).symm); obtain ⟨x0, x3, x4, x5, x6⟩ := box_after hb1; have hw1 := box_below hB hb1)
            go_quiet (fail)
            go_wp2_with (first | (go_at_call 23; refine (CL.out _).mono ?_; rintro e w' ⟨rfl, rfl⟩))
            go_ret
            exact ⟨ret_int hv.out.symm, below_drewN hw1 _⟩
          | true =>
            have hl := Lib.hid hl'
            clear hl'
            cases ho' : (codesB r.once.data.toList && inB r.codes.data.toList r.once.data.toList) with
            | false =>
              have ho := Lib.hid ho'
              clear ho'
              have hv : Hid (rightR rs = 3) := right_hit rs hle 0 3 hlt HZ.out (by rw [err_first rs r ER.out, errOf_first r HT.out]; exact rest_form r (form_once ho.out)) (by decide)
              have CL := Lib.hid (list_val s3 hl.out)
              have CO := Lib.hid (within_val s4 s3 hl.out ho.out)
              go_wp2_with (go_at_call 22; refine (CT.out _).mono ?_; rintro e w1 ⟨rfl, hb0⟩; have hb1 := hb0.mono (Nat.le_of_eq (World.size_alloc _ _).symm); obtain ⟨x0, x3, x4, x5, x6⟩ := box_after hb1; have hw1 := box_below hB hb1)
              go_quiet (fail)
              go_wp2_with (first | (go_at_call 23; refine (CL.out _).mono ?_; rintro e w' ⟨rfl, rfl⟩) | (go_at_call 24; (with_reducible refine (CO.out _).mono ?_); rintro e w2 ⟨rfl, hb9⟩; have hb2 := more_below hb1 (Nat.le_of_eq (World.size_alloc _ _).symm) _ hb9; obtain ⟨y0, y3, y4, y5, y6⟩ := box_after hb2))
              go_ret
              exact ⟨ret_int hv.out.symm, box_below hB hb2⟩
            | true =>
              have ho := Lib.hid ho'
              clear ho'
              cases hn' : (codesB r.needs.data.toList && inB r.codes.data.toList r.needs.data.toList) with
              | false =>
                have hn := Lib.hid hn'
                clear hn'
                have hv : Hid (rightR rs = 3) := right_hit rs hle 0 3 hlt HZ.out (by rw [err_first rs r ER.out, errOf_first r HT.out]; exact rest_form r (form_needs hn.out)) (by decide)
                have CL := Lib.hid (list_val s3 hl.out)
                have CO := Lib.hid (within_val s4 s3 hl.out ho.out)
                have CN := Lib.hid (within_val s5 s3 hl.out hn.out)
                go_wp2_with (go_at_call 22; refine (CT.out _).mono ?_; rintro e w1 ⟨rfl, hb0⟩; have hb1 := hb0.mono (Nat.le_of_eq (World.size_alloc _ _).symm); obtain ⟨x0, x3, x4, x5, x6⟩ := box_after hb1; have hw1 := box_below hB hb1)
                go_quiet (fail)
                go_wp2_with (first | (go_at_call 23; refine (CL.out _).mono ?_; rintro e w' ⟨rfl, rfl⟩) | (go_at_call 24; (with_reducible refine (CO.out _).mono ?_); rintro e w2 ⟨rfl, hb9⟩; have hb2 := more_below hb1 (Nat.le_of_eq (World.size_alloc _ _).symm) _ hb9; obtain ⟨y0, y3, y4, y5, y6⟩ := box_after hb2) | (go_at_call 24; (with_reducible refine (CN.out _).mono ?_); rintro e w3 ⟨rfl, hb8⟩; have hb3 := more_below0 hb2 (Nat.le_of_eq (World.size_alloc _ _).symm) hb8; obtain ⟨z0, z3, z4, z5, z6⟩ := box_after hb3))
                go_ret
                exact ⟨ret_int hv.out.symm, box_below hB hb3⟩
              | true =>
                have hn := Lib.hid hn'
                clear hn'
                by_cases ha : r.auth < 0
                · skip
                  have hv : Hid (rightR rs = 1) := right_hit rs hle 0 1 hlt HZ.out (by rw [err_first rs r ER.out, errOf_first r HT.out]; exact rest_low r (form_ok HE.out hl.out ho.out hn.out) ha) (by decide)
                  have CL := Lib.hid (list_val s3 hl.out)
                  have CO := Lib.hid (within_val s4 s3 hl.out ho.out)
                  have CN := Lib.hid (within_val s5 s3 hl.out hn.out)
                  go_wp2_with (go_at_call 22; refine (CT.out _).mono ?_; rintro e w1 ⟨rfl, hb0⟩; have hb1 := hb0.mono (Nat.le_of_eq (World.size_alloc _ _).symm); obtain ⟨x0, x3, x4, x5, x6⟩ := box_after hb1; have hw1 := box_below hB hb1)
                  go_quiet (fail)
                  go_wp2_with (first | (go_at_call 23; refine (CL.out _).mono ?_; rintro e w' ⟨rfl, rfl⟩) | (go_at_call 24; (with_reducible refine (CO.out _).mono ?_); rintro e w2 ⟨rfl, hb9⟩; have hb2 := more_below hb1 (Nat.le_of_eq (World.size_alloc _ _).symm) _ hb9; obtain ⟨y0, y3, y4, y5, y6⟩ := box_after hb2) | (go_at_call 24; (with_reducible refine (CN.out _).mono ?_); rintro e w3 ⟨rfl, hb8⟩; have hb3 := more_below0 hb2 (Nat.le_of_eq (World.size_alloc _ _).symm) hb8; obtain ⟨z0, z3, z4, z5, z6⟩ := box_after hb3))
                  go_ret
                  exact ⟨ret_int hv.out.symm, box_below hB hb3⟩
                by_cases ha : 4 < r.auth
                · skip
                  have hv : Hid (rightR rs = 1) := right_hit rs hle 0 1 hlt HZ.out (by rw [err_first rs r ER.out, errOf_first r HT.out]; exact rest_high r (form_ok HE.out hl.out ho.out hn.out) ha) (by decide)
                  have CL := Lib.hid (list_val s3 hl.out)
                  have CO := Lib.hid (within_val s4 s3 hl.out ho.out)
                  have CN := Lib.hid (within_val s5 s3 hl.out hn.out)
                  go_wp2_with (go_at_call 22; refine (CT.out _).mono ?_; rintro e w1 ⟨rfl, hb0⟩; have hb1 := hb0.mono (Nat.le_of_eq (World.size_alloc _ _).symm); obtain ⟨x0, x3, x4, x5, x6⟩ := box_after hb1; have hw1 := box_below hB hb1)
                  go_quiet (fail)
                  go_wp2_with (first | (go_at_call 23; refine (CL.out _).mono ?_; rintro e w' ⟨rfl, rfl⟩) | (go_at_call 24; (with_reducible refine (CO.out _).mono ?_); rintro e w2 ⟨rfl, hb9⟩; have hb2 := more_below hb1 (Nat.le_of_eq (World.size_alloc _ _).symm) _ hb9; obtain ⟨y0, y3, y4, y5, y6⟩ := box_after hb2) | (go_at_call 24; (with_reducible refine (CN.out _).mono ?_); rintro e w3 ⟨rfl, hb8⟩; have hb3 := more_below0 hb2 (Nat.le_of_eq (World.size_alloc _ _).symm) hb8; obtain ⟨z0, z3, z4, z5, z6⟩ := box_after hb3))
                  go_ret
                  exact ⟨ret_int hv.out.symm, box_below hB hb3⟩
                have ha : 0 ≤ r.auth := by omega
                have hb4 : r.auth ≤ 4 := by omega
                have hv : Hid (∀ i, i < 0 + 1 → errW none rs i = 0) := zero_next rs 0 HZ.out (by rw [err_first rs r ER.out, errOf_first r HT.out]; exact rest_ok r (form_ok HE.out hl.out ho.out hn.out) ha hb4)
                have CL := Lib.hid (list_val s3 hl.out)
                have CO := Lib.hid (within_val s4 s3 hl.out ho.out)
                have CN := Lib.hid (within_val s5 s3 hl.out hn.out)
                go_wp2_with (go_at_call 22; refine (CT.out _).mono ?_; rintro e w1 ⟨rfl, hb0⟩; have hb1 := hb0.mono (Nat.le_of_eq (World.size_alloc _ _).symm); obtain ⟨x0, x3, x4, x5, x6⟩ := box_after hb1; have hw1 := box_below hB hb1)
                go_quiet (fail)
                go_wp2_with (first | (go_at_call 23; refine (CL.out _).mono ?_; rintro e w' ⟨rfl, rfl⟩) | (go_at_call 24; (with_reducible refine (CO.out _).mono ?_); rintro e w2 ⟨rfl, hb9⟩; have hb2 := more_below hb1 (Nat.le_of_eq (World.size_alloc _ _).symm) _ hb9; obtain ⟨y0, y3, y4, y5, y6⟩ := box_after hb2) | (go_at_call 24; (with_reducible refine (CN.out _).mono ?_); rintro e w3 ⟨rfl, hb8⟩; have hb3 := more_below0 hb2 (Nat.le_of_eq (World.size_alloc _ _).symm) hb8; obtain ⟨z0, z3, z4, z5, z6⟩ := box_after hb3))
                go_roundw
                case rel => exact ⟨0 + 1, by omega, by go_num, box_below hB hb3, hv⟩
                case measure => simp [intOf]; omega
        · obtain ⟨j, rfl⟩ : ∃ j, k = j + 1 := ⟨k - 1, by omega⟩
          have ER := Lib.hid er
          clear er
          obtain ⟨q, eq⟩ : ∃ q, q = rs[j]! := ⟨_, rfl⟩
          have EQ := Lib.hid eq
          clear eq
          have hw1' : IntKind.i64.wrap ((j : Int) + 1 - 1) = (j : Int) := by rw [IntKind.wrap_i64]; omega
          have ek : (0 : Int) < (j : Int) + 1 := by omega
          have en : (0 : Int) ≤ (j : Int) + 1 := by omega
          have ej : ((j : Int) + 1).toNat = j + 1 := by omega
          have ei : (j : Int) + 1 - 1 = (j : Int) := by omega
          cases h7a : Op.bytesLess r.tag.toList q.tag.toList with
          | true =>
            have h7 := twice_less h7a
            have hv : Hid (rightR rs = 7) := right_hit rs hle (j + 1) 7 hlt HZ.out (by rw [err_later rs j r q ER.out EQ.out]; exact errOf_twice q r HT.out h7) (by decide)
            clear h7
            go_wp2_with (go_at_call 22; refine (CT.out _).mono ?_; rintro e w1 ⟨rfl, hb0⟩; have hb1 := hb0.mono (Nat.le_of_eq (World.size_alloc _ _).symm); obtain ⟨x0, x3, x4, x5, x6⟩ := box_after hb1; have hw1 := box_below hB hb1; have p0 := ((HC.out.below hw1 hb).at_ j (Nat.lt_of_succ_lt hlt)).1; rw [← EQ.out] at p0)
            go_quiet (fail)
            go_wp2
            go_ret
            exact ⟨ret_int hv.out.symm, below_drewN hw1 _⟩
          | false =>
            cases h7b : (r.tag.toList == q.tag.toList) with
            | true =>
              have h7 := twice_same h7b
              have hv : Hid (rightR rs = 7) := right_hit rs hle (j + 1) 7 hlt HZ.out (by rw [err_later rs j r q ER.out EQ.out]; exact errOf_twice q r HT.out h7) (by decide)
              clear h7
              go_wp2_with (go_at_call 22; refine (CT.out _).mono ?_; rintro e w1 ⟨rfl, hb0⟩; have hb1 := hb0.mono (Nat.le_of_eq (World.size_alloc _ _).symm); obtain ⟨x0, x3, x4, x5, x6⟩ := box_after hb1; have hw1 := box_below hB hb1; have p0 := ((HC.out.below hw1 hb).at_ j (Nat.lt_of_succ_lt hlt)).1; rw [← EQ.out] at p0)
              go_quiet (fail)
              go_wp2
              go_ret
              exact ⟨ret_int hv.out.symm, below_drewN hw1 _⟩
            | false =>
              have h7 := twice_not h7a h7b
              by_cases he : r.codes.toList = []
              · skip
                have hv : Hid (rightR rs = 3) := right_hit rs hle (j + 1) 3 hlt HZ.out (by rw [err_later rs j r q ER.out EQ.out, errOf_later q r HT.out h7]; exact rest_form r (form_empty he)) (by decide)
                clear h7
                go_wp2_with (go_at_call 22; refine (CT.out _).mono ?_; rintro e w1 ⟨rfl, hb0⟩; have hb1 := hb0.mono (Nat.le_of_eq (World.size_alloc _ _).symm); obtain ⟨x0, x3, x4, x5, x6⟩ := box_after hb1; have hw1 := box_below hB hb1; have p0 := ((HC.out.below hw1 hb).at_ j (Nat.lt_of_succ_lt hlt)).1; rw [← EQ.out] at p0)
                go_quiet (fail)
                go_wp2
                go_ret
                exact ⟨ret_int hv.out.symm, below_drewN hw1 _⟩
              have he2 : r.codes.toList.isEmpty = false := by simp [he]
              have HE := Lib.hid he
              clear he
              cases hl' : codesB r.codes.data.toList with
              | false =>
                have hl := Lib.hid hl'
                clear hl'
                have hv : Hid (rightR rs = 3) := right_hit rs hle (j + 1) 3 hlt HZ.out (by rw [err_later rs j r q ER.out EQ.out, errOf_later q r HT.out h7]; exact rest_form r (form_list hl.out)) (by decide)
                have CL := Lib.hid (list_val s3 hl.out)
                clear h7
                go_wp2_with (go_at_call 22; refine (CT.out _).mono ?_; rintro e w1 ⟨rfl, hb0⟩; have hb1 := hb0.mono (Nat.le_of_eq (World.size_alloc _ _).symm); obtain ⟨x0, x3, x4, x5, x6⟩ := box_after hb1; have hw1 := box_below hB hb1; have p0 := ((HC.out.below hw1 hb).at_ j (Nat.lt_of_succ_lt hlt)).1; rw [← EQ.out] at p0)
                go_quiet (fail)
                go_wp2_with (first | (go_at_call 23; refine (CL.out _).mono ?_; rintro e w' ⟨rfl, rfl⟩))
                go_ret
                exact ⟨ret_int hv.out.symm, below_drewN hw1 _⟩
              | true =>
                have hl := Lib.hid hl'
                clear hl'
                cases ho' : (codesB r.once.data.toList && inB r.codes.data.toList r.once.data.toList) with
                | false =>
                  have ho := Lib.hid ho'
                  clear ho'
                  have hv : Hid (rightR rs = 3) := right_hit rs hle (j + 1) 3 hlt HZ.out (by rw [err_later rs j r q ER.out EQ.out, errOf_later q r HT.out h7]; exact rest_form r (form_once ho.out)) (by decide)
                  have CL := Lib.hid (list_val s3 hl.out)
                  have CO := Lib.hid (within_val s4 s3 hl.out ho.out)
                  clear h7
                  go_wp2_with (go_at_call 22; refine (CT.out _).mono ?_; rintro e w1 ⟨rfl, hb0⟩; have hb1 := hb0.mono (Nat.le_of_eq (World.size_alloc _ _).symm); obtain ⟨x0, x3, x4, x5, x6⟩ := box_after hb1; have hw1 := box_below hB hb1; have p0 := ((HC.out.below hw1 hb).at_ j (Nat.lt_of_succ_lt hlt)).1; rw [← EQ.out] at p0)
                  go_quiet (fail)
                  go_wp2_with (first | (go_at_call 23; refine (CL.out _).mono ?_; rintro e w' ⟨rfl, rfl⟩) | (go_at_call 24; (with_reducible refine (CO.out _).mono ?_); rintro e w2 ⟨rfl, hb9⟩; have hb2 := more_below hb1 (Nat.le_of_eq (World.size_alloc _ _).symm) _ hb9; obtain ⟨y0, y3, y4, y5, y6⟩ := box_after hb2))
                  go_ret
                  exact ⟨ret_int hv.out.symm, box_below hB hb2⟩
                | true =>
                  have ho := Lib.hid ho'
                  clear ho'
                  cases hn' : (codesB r.needs.data.toList && inB r.codes.data.toList r.needs.data.toList) with
                  | false =>
                    have hn := Lib.hid hn'
                    clear hn'
                    have hv : Hid (rightR rs = 3) := right_hit rs hle (j + 1) 3 hlt HZ.out (by rw [err_later rs j r q ER.out EQ.out, errOf_later q r HT.out h7]; exact rest_form r (form_needs hn.out)) (by decide)
                    have CL := Lib.hid (list_val s3 hl.out)
                    have CO := Lib.hid (within_val s4 s3 hl.out ho.out)
                    have CN := Lib.hid (within_val s5 s3 hl.out hn.out)
                    clear h7
                    go_wp2_with (go_at_call 22; refine (CT.out _).mono ?_; rintro e w1 ⟨rfl, hb0⟩; have hb1 := hb0.mono (Nat.le_of_eq (World.size_alloc _ _).symm); obtain ⟨x0, x3, x4, x5, x6⟩ := box_after hb1; have hw1 := box_below hB hb1; have p0 := ((HC.out.below hw1 hb).at_ j (Nat.lt_of_succ_lt hlt)).1; rw [← EQ.out] at p0)
                    go_quiet (fail)
                    go_wp2_with (first | (go_at_call 23; refine (CL.out _).mono ?_; rintro e w' ⟨rfl, rfl⟩) | (go_at_call 24; (with_reducible refine (CO.out _).mono ?_); rintro e w2 ⟨rfl, hb9⟩; have hb2 := more_below hb1 (Nat.le_of_eq (World.size_alloc _ _).symm) _ hb9; obtain ⟨y0, y3, y4, y5, y6⟩ := box_after hb2) | (go_at_call 24; (with_reducible refine (CN.out _).mono ?_); rintro e w3 ⟨rfl, hb8⟩; have hb3 := more_below0 hb2 (Nat.le_of_eq (World.size_alloc _ _).symm) hb8; obtain ⟨z0, z3, z4, z5, z6⟩ := box_after hb3))
                    go_ret
                    exact ⟨ret_int hv.out.symm, box_below hB hb3⟩
                  | true =>
                    have hn := Lib.hid hn'
                    clear hn'
                    by_cases ha : r.auth < 0
                    · skip
                      have hv : Hid (rightR rs = 1) := right_hit rs hle (j + 1) 1 hlt HZ.out (by rw [err_later rs j r q ER.out EQ.out, errOf_later q r HT.out h7]; exact rest_low r (form_ok HE.out hl.out ho.out hn.out) ha) (by decide)
                      have CL := Lib.hid (list_val s3 hl.out)
                      have CO := Lib.hid (within_val s4 s3 hl.out ho.out)
                      have CN := Lib.hid (within_val s5 s3 hl.out hn.out)
                      clear h7
                      go_wp2_with (go_at_call 22; refine (CT.out _).mono ?_; rintro e w1 ⟨rfl, hb0⟩; have hb1 := hb0.mono (Nat.le_of_eq (World.size_alloc _ _).symm); obtain ⟨x0, x3, x4, x5, x6⟩ := box_after hb1; have hw1 := box_below hB hb1; have p0 := ((HC.out.below hw1 hb).at_ j (Nat.lt_of_succ_lt hlt)).1; rw [← EQ.out] at p0)
                      go_quiet (fail)
                      go_wp2_with (first | (go_at_call 23; refine (CL.out _).mono ?_; rintro e w' ⟨rfl, rfl⟩) | (go_at_call 24; (with_reducible refine (CO.out _).mono ?_); rintro e w2 ⟨rfl, hb9⟩; have hb2 := more_below hb1 (Nat.le_of_eq (World.size_alloc _ _).symm) _ hb9; obtain ⟨y0, y3, y4, y5, y6⟩ := box_after hb2) | (go_at_call 24; (with_reducible refine (CN.out _).mono ?_); rintro e w3 ⟨rfl, hb8⟩; have hb3 := more_below0 hb2 (Nat.le_of_eq (World.size_alloc _ _).symm) hb8; obtain ⟨z0, z3, z4, z5, z6⟩ := box_after hb3))
                      go_ret
                      exact ⟨ret_int hv.out.symm, box_below hB hb3⟩
                    by_cases ha : 4 < r.auth
                    · skip
                      have hv : Hid (rightR rs = 1) := right_hit rs hle (j + 1) 1 hlt HZ.out (by rw [err_later rs j r q ER.out EQ.out, errOf_later q r HT.out h7]; exact rest_high r (form_ok HE.out hl.out ho.out hn.out) ha) (by decide)
                      have CL := Lib.hid (list_val s3 hl.out)
                      have CO := Lib.hid (within_val s4 s3 hl.out ho.out)
                      have CN := Lib.hid (within_val s5 s3 hl.out hn.out)
                      clear h7
                      go_wp2_with (go_at_call 22; refine (CT.out _).mono ?_; rintro e w1 ⟨rfl, hb0⟩; have hb1 := hb0.mono (Nat.le_of_eq (World.size_alloc _ _).symm); obtain ⟨x0, x3, x4, x5, x6⟩ := box_after hb1; have hw1 := box_below hB hb1; have p0 := ((HC.out.below hw1 hb).at_ j (Nat.lt_of_succ_lt hlt)).1; rw [← EQ.out] at p0)
                      go_quiet (fail)
                      go_wp2_with (first | (go_at_call 23; refine (CL.out _).mono ?_; rintro e w' ⟨rfl, rfl⟩) | (go_at_call 24; (with_reducible refine (CO.out _).mono ?_); rintro e w2 ⟨rfl, hb9⟩; have hb2 := more_below hb1 (Nat.le_of_eq (World.size_alloc _ _).symm) _ hb9; obtain ⟨y0, y3, y4, y5, y6⟩ := box_after hb2) | (go_at_call 24; (with_reducible refine (CN.out _).mono ?_); rintro e w3 ⟨rfl, hb8⟩; have hb3 := more_below0 hb2 (Nat.le_of_eq (World.size_alloc _ _).symm) hb8; obtain ⟨z0, z3, z4, z5, z6⟩ := box_after hb3))
                      go_ret
                      exact ⟨ret_int hv.out.symm, box_below hB hb3⟩
                    have ha : 0 ≤ r.auth := by omega
                    have hb4 : r.auth ≤ 4 := by omega
                    have hv : Hid (∀ i, i < (j + 1) + 1 → errW none rs i = 0) := zero_next rs (j + 1) HZ.out (by rw [err_later rs j r q ER.out EQ.out, errOf_later q r HT.out h7]; exact rest_ok r (form_ok HE.out hl.out ho.out hn.out) ha hb4)
                    have CL := Lib.hid (list_val s3 hl.out)
                    have CO := Lib.hid (within_val s4 s3 hl.out ho.out)
                    have CN := Lib.hid (within_val s5 s3 hl.out hn.out)
                    clear h7
                    go_wp2_with (go_at_call 22; refine (CT.out _).mono ?_; rintro e w1 ⟨rfl, hb0⟩; have hb1 := hb0.mono (Nat.le_of_eq (World.size_alloc _ _).symm); obtain ⟨x0, x3, x4, x5, x6⟩ := box_after hb1; have hw1 := box_below hB hb1; have p0 := ((HC.out.below hw1 hb).at_ j (Nat.lt_of_succ_lt hlt)).1; rw [← EQ.out] at p0)
                    go_quiet (fail)
                    go_wp2_with (first | (go_at_call 23; refine (CL.out _).mono ?_; rintro e w' ⟨rfl, rfl⟩) | (go_at_call 24; (with_reducible refine (CO.out _).mono ?_); rintro e w2 ⟨rfl, hb9⟩; have hb2 := more_below hb1 (Nat.le_of_eq (World.size_alloc _ _).symm) _ hb9; obtain ⟨y0, y3, y4, y5, y6⟩ := box_after hb2) | (go_at_call 24; (with_reducible refine (CN.out _).mono ?_); rintro e w3 ⟨rfl, hb8⟩; have hb3 := more_below0 hb2 (Nat.le_of_eq (World.size_alloc _ _).symm) hb8; obtain ⟨z0, z3, z4, z5, z6⟩ := box_after hb3))
                    go_roundw
                    case rel => exact ⟨(j + 1) + 1, by omega, by go_num, box_below hB hb3, hv⟩
                    case measure => simp [intOf]; omega
    · obtain rfl : k = rs.length := by omega
      have hv := Lib.hid (right_ok rs hle HZ.out)
      go_wp2
      go_ret
      exact ⟨ret_int hv.out.symm, hB⟩
end Go.Proofs.YtgpmbkbhkjepgaaDoor
