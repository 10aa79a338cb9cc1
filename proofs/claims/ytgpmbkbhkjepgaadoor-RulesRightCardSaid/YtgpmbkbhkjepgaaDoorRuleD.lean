/-
  THE WALK OF THE REFERENCE's Right: it returns the error of the list of rules; what lay in memory lies there still. Conditions: the list lies in memory as told, its texts hold 100 bytes at most.
-/
import Derived.Test.YtgpmbkbhkjepgaaDoorRuleC
namespace Go.Proofs.YtgpmbkbhkjepgaaDoor
open Go.RowKit

theorem reftag_val {r : Rule} {v : Bool} (h : tagB r.tag.data.toList = v) (W : World) : Calls Tryd.prog 25 #[.string r.tag] W fun e w' => e = .returned (.bool v) ∧ W = w' := by
  rw [← h]; exact reftag_any _ _
theorem codes_val {s : ByteArray} (hs : s.size ≤ 100) {v : Bool} (h : codesB s.data.toList = v) (W : World) : Calls Tryd.prog 26 #[.string s] W fun e w' => e = .returned (.bool v) ∧ Quiet W w' := by
  rw [← h]; exact codes_any _ _ (by omega)
theorem in_val {a s : ByteArray} (ha : a.size ≤ 100) (hs : s.size ≤ 100) {v : Bool} (h : inB a.data.toList s.data.toList = v) (W : World) : Calls Tryd.prog 27 #[.string a, .string s] W fun e w' => e = .returned (.bool v) ∧ W = w' := by
  rw [← h]; exact inB_any _ _ _ (by omega) (by omega)
theorem form_once1 {r : Rule} (h : codesB r.once.data.toList = false) : formB r = false := by rw [formB, h]; simp
theorem form_once2 {r : Rule} (h : inB r.codes.data.toList r.once.data.toList = false) : formB r = false := by rw [formB, h]; simp
theorem form_needs1 {r : Rule} (h : codesB r.needs.data.toList = false) : formB r = false := by rw [formB, h]; simp
theorem form_needs2 {r : Rule} (h : inB r.codes.data.toList r.needs.data.toList = false) : formB r = false := by rw [formB, h]; simp
theorem form_ok2 {r : Rule} (h0 : ¬ r.codes.toList = []) (h1 : codesB r.codes.data.toList = true) (h2 : codesB r.once.data.toList = true) (h3 : codesB r.needs.data.toList = true)
    (h4 : inB r.codes.data.toList r.once.data.toList = true) (h5 : inB r.codes.data.toList r.needs.data.toList = true) : formB r = true := by rw [formB, h1, h2, h3, h4, h5]; simp [h0]

set_option maxRecDepth 100000 in
set_option maxHeartbeats 4000000 in
theorem refright_any (b off c : Nat) (rs : List Rule) (w : World) (hb : b < w.heap.size) (hc : RulesAt w b off rs) (hsh : ∀ j, j < rs.length → Short rs[j]!) (hbig : rs.length ≤ 65536) :
    Calls Tryd.prog 13 #[.slice (some ⟨b, off, none⟩) rs.length c] w fun e w' => e = .returned (.int .i64 (rightR rs)) ∧ Below w.heap.size w w' := by
  by_cases h32 : 32 < rs.length
  · have hv := Lib.hid (right_many rs h32)
    clear hc hsh
    go_enter Tryd.func13, Tryd.ntmps13
    go_wp2
    go_ret
    exact ⟨ret_int hv.out.symm, Below.refl _ w⟩
  have hle : rs.length ≤ 32 := by omega
  have HC := Lib.hid hc
  have HS := Lib.hid hsh
  clear hc hsh h32
  go_enter Tryd.func13, Tryd.ntmps13
  go_wp2
  go_loopw [3, 4] (fun i _ wr => ∃ k : Nat, k ≤ rs.length ∧ i = .int .i64 k ∧ Below w.heap.size w wr ∧ Hid (∀ j, j < k → errW none rs j = 0)) (fun i _ _ => rs.length - (intOf i).toNat)
  case atStart => exact ⟨0, Nat.zero_le _, rfl, Below.refl _ w, fun j hj => absurd hj (Nat.not_lt_zero _)⟩
  case round =>
    obtain ⟨k, hk, rfl, hB, HZ⟩ := hrel
    by_cases hlt : k < rs.length
    · obtain ⟨c0, c1, c2, c3, c4, c5, c6⟩ := (HC.out.below hB hb).at_ k hlt
      obtain ⟨s0, s3, s4, s5⟩ := HS.out k hlt
      obtain ⟨r, er⟩ : ∃ r, r = rs[k]! := ⟨_, rfl⟩
      rw [← er] at c0 c1 c2 c3 c4 c5 c6 s0 s3 s4 s5
      have hbw : b < wr.heap.size := Nat.lt_of_lt_of_le hb hB.size
      have hne : b ≠ wr.heap.size := by omega
      have hBa : Below w.heap.size w (wr.alloc (.cells #[.string r.tag, .bool r.rep, .bool r.must, .string r.codes, .string r.once, .string r.needs, .int .i64 r.auth] 25)) := hB.alloc hB.size _
      cases ht : tagB r.tag.data.toList with
      | false =>
        have hv : Hid (rightR rs = 6) := by
          refine right_hit rs hle k 6 hlt HZ.out ?_ (by decide)
          cases k with
          | zero => rw [err_first rs r er]; exact errOf_tag _ _ ht
          | succ j => rw [err_later rs j r _ er rfl]; exact errOf_tag _ _ ht
        have CT := Lib.hid (reftag_val ht)
        clear ht er
        go_wp2_with (go_at_call 25; refine (CT.out _).mono ?_; rintro e w1 ⟨rfl, rfl⟩)
        go_ret
        exact ⟨ret_int hv.out.symm, hBa⟩
      | true =>
        have CT := Lib.hid (reftag_val ht)
        have HT := Lib.hid ht
        clear ht
        rcases Nat.eq_zero_or_pos k with h0 | h0
        · subst h0
          have ER := Lib.hid er
          clear er
          simp only [Nat.zero_mul, Nat.add_zero] at c0 c1 c2 c3 c4 c5 c6
          by_cases he : r.codes.toList = []
          · skip
            have hv : Hid (rightR rs = 3) := right_hit rs hle 0 3 hlt HZ.out (by rw [err_first rs r ER.out, errOf_first r HT.out]; exact rest_form r (form_empty he)) (by decide)
            go_wp2_with (go_at_call 25; refine (CT.out _).mono ?_; rintro e w1 ⟨rfl, rfl⟩)
            go_quiet (fail)
            go_wp2
            go_ret
            exact ⟨ret_int hv.out.symm, below_drewN hBa _⟩
          have he2 : r.codes.toList.isEmpty = false := by simp [he]
          have HE := Lib.hid he
          clear he
          cases hl' : codesB r.codes.data.toList with
          | false =>
            have hl := Lib.hid hl'
            clear hl'
            have hv : Hid (rightR rs = 3) := right_hit rs hle 0 3 hlt HZ.out (by rw [err_first rs r ER.out, errOf_first r HT.out]; exact rest_form r (form_list hl.out)) (by decide)
            have CL := Lib.hid (codes_val s3 hl.out)
            go_wp2_with (go_at_call 25; refine (CT.out _).mono ?_; rintro e w1 ⟨rfl, rfl⟩)
            go_quiet (fail)
            go_wp2_with (first | (go_at_call 26; (with_reducible refine (CL.out _).mono ?_); rintro e w' ⟨rfl, hq⟩; obtain ⟨n1, rfl⟩ := hq))
            go_ret
            exact ⟨ret_int hv.out.symm, below_drewN hBa _⟩
          | true =>
            have hl := Lib.hid hl'
            clear hl'
            cases hp' : codesB r.once.data.toList with
            | false =>
              have hp := Lib.hid hp'
              clear hp'
              have hv : Hid (rightR rs = 3) := right_hit rs hle 0 3 hlt HZ.out (by rw [err_first rs r ER.out, errOf_first r HT.out]; exact rest_form r (form_once1 hp.out)) (by decide)
              have CL := Lib.hid (codes_val s3 hl.out)
              have CP := Lib.hid (codes_val s4 hp.out)
              go_wp2_with (go_at_call 25; refine (CT.out _).mono ?_; rintro e w1 ⟨rfl, rfl⟩)
              go_quiet (fail)
              go_wp2_with (first | (go_at_call 26; (with_reducible refine (CL.out _).mono ?_); rintro e w' ⟨rfl, hq⟩; obtain ⟨n1, rfl⟩ := hq) | (go_at_call 26; (with_reducible refine (CP.out _).mono ?_); rintro e w' ⟨rfl, hq⟩; obtain ⟨n1, rfl⟩ := hq))
              go_ret
              exact ⟨ret_int hv.out.symm, below_drewN hBa _⟩
            | true =>
              have hp := Lib.hid hp'
              clear hp'
              cases hn' : codesB r.needs.data.toList with
              | false =>
                have hn := Lib.hid hn'
                clear hn'
                have hv : Hid (rightR rs = 3) := right_hit rs hle 0 3 hlt HZ.out (by rw [err_first rs r ER.out, errOf_first r HT.out]; exact rest_form r (form_needs1 hn.out)) (by decide)
                have CL := Lib.hid (codes_val s3 hl.out)
                have CP := Lib.hid (codes_val s4 hp.out)
                have CN := Lib.hid (codes_val s5 hn.out)
                go_wp2_with (go_at_call 25; refine (CT.out _).mono ?_; rintro e w1 ⟨rfl, rfl⟩)
                go_quiet (fail)
                go_wp2_with (first | (go_at_call 26; (with_reducible refine (CL.out _).mono ?_); rintro e w' ⟨rfl, hq⟩; obtain ⟨n1, rfl⟩ := hq) | (go_at_call 26; (with_reducible refine (CP.out _).mono ?_); rintro e w' ⟨rfl, hq⟩; obtain ⟨n1, rfl⟩ := hq) | (go_at_call 26; (with_reducible refine (CN.out _).mono ?_); rintro e w' ⟨rfl, hq⟩; obtain ⟨n1, rfl⟩ := hq))
                go_ret
                exact ⟨ret_int hv.out.symm, below_drewN hBa _⟩
              | true =>
                have hn := Lib.hid hn'
                clear hn'
                cases ho' : inB r.codes.data.toList r.once.data.toList with
                | false =>
                  have ho := Lib.hid ho'
                  clear ho'
                  have hv : Hid (rightR rs = 3) := right_hit rs hle 0 3 hlt HZ.out (by rw [err_first rs r ER.out, errOf_first r HT.out]; exact rest_form r (form_once2 ho.out)) (by decide)
                  have CL := Lib.hid (codes_val s3 hl.out)
                  have CP := Lib.hid (codes_val s4 hp.out)
                  have CN := Lib.hid (codes_val s5 hn.out)
                  have CO := Lib.hid (in_val s3 s4 ho.out)
                  go_wp2_with (go_at_call 25; refine (CT.out _).mono ?_; rintro e w1 ⟨rfl, rfl⟩)
                  go_quiet (fail)
                  go_wp2_with (first | (go_at_call 26; (with_reducible refine (CL.out _).mono ?_); rintro e w' ⟨rfl, hq⟩; obtain ⟨n1, rfl⟩ := hq) | (go_at_call 26; (with_reducible refine (CP.out _).mono ?_); rintro e w' ⟨rfl, hq⟩; obtain ⟨n1, rfl⟩ := hq) | (go_at_call 26; (with_reducible refine (CN.out _).mono ?_); rintro e w' ⟨rfl, hq⟩; obtain ⟨n1, rfl⟩ := hq) | (go_at_call 27; (with_reducible refine (CO.out _).mono ?_); rintro e w' ⟨rfl, rfl⟩))
                  go_ret
                  exact ⟨ret_int hv.out.symm, below_drewN hBa _⟩
                | true =>
                  have ho := Lib.hid ho'
                  clear ho'
                  cases hm' : inB r.codes.data.toList r.needs.data.toList with
                  | false =>
                    have hm := Lib.hid hm'
                    clear hm'
                    have hv : Hid (rightR rs = 3) := right_hit rs hle 0 3 hlt HZ.out (by rw [err_first rs r ER.out, errOf_first r HT.out]; exact rest_form r (form_needs2 hm.out)) (by decide)
                    have CL := Lib.hid (codes_val s3 hl.out)
                    have CP := Lib.hid (codes_val s4 hp.out)
                    have CN := Lib.hid (codes_val s5 hn.out)
                    have CO := Lib.hid (in_val s3 s4 ho.out)
                    have CM := Lib.hid (in_val s3 s5 hm.out)
                    go_wp2_with (go_at_call 25; refine (CT.out _).mono ?_; rintro e w1 ⟨rfl, rfl⟩)
                    go_quiet (fail)
                    go_wp2_with (first | (go_at_call 26; (with_reducible refine (CL.out _).mono ?_); rintro e w' ⟨rfl, hq⟩; obtain ⟨n1, rfl⟩ := hq) | (go_at_call 26; (with_reducible refine (CP.out _).mono ?_); rintro e w' ⟨rfl, hq⟩; obtain ⟨n1, rfl⟩ := hq) | (go_at_call 26; (with_reducible refine (CN.out _).mono ?_); rintro e w' ⟨rfl, hq⟩; obtain ⟨n1, rfl⟩ := hq) | (go_at_call 27; (with_reducible refine (CO.out _).mono ?_); rintro e w' ⟨rfl, rfl⟩) | (go_at_call 27; (with_reducible refine (CM.out _).mono ?_); rintro e w' ⟨rfl, rfl⟩))
                    go_ret
                    exact ⟨ret_int hv.out.symm, below_drewN hBa _⟩
                  | true =>
                    have hm := Lib.hid hm'
                    clear hm'
                    by_cases ha : r.auth < 0
                    · skip
                      have hv : Hid (rightR rs = 1) := right_hit rs hle 0 1 hlt HZ.out (by rw [err_first rs r ER.out, errOf_first r HT.out]; exact rest_low r (form_ok2 HE.out hl.out hp.out hn.out ho.out hm.out) ha) (by decide)
                      have CL := Lib.hid (codes_val s3 hl.out)
                      have CP := Lib.hid (codes_val s4 hp.out)
                      have CN := Lib.hid (codes_val s5 hn.out)
                      have CO := Lib.hid (in_val s3 s4 ho.out)
                      have CM := Lib.hid (in_val s3 s5 hm.out)
                      go_wp2_with (go_at_call 25; refine (CT.out _).mono ?_; rintro e w1 ⟨rfl, rfl⟩)
                      go_quiet (fail)
                      go_wp2_with (first | (go_at_call 26; (with_reducible refine (CL.out _).mono ?_); rintro e w' ⟨rfl, hq⟩; obtain ⟨n1, rfl⟩ := hq) | (go_at_call 26; (with_reducible refine (CP.out _).mono ?_); rintro e w' ⟨rfl, hq⟩; obtain ⟨n1, rfl⟩ := hq) | (go_at_call 26; (with_reducible refine (CN.out _).mono ?_); rintro e w' ⟨rfl, hq⟩; obtain ⟨n1, rfl⟩ := hq) | (go_at_call 27; (with_reducible refine (CO.out _).mono ?_); rintro e w' ⟨rfl, rfl⟩) | (go_at_call 27; (with_reducible refine (CM.out _).mono ?_); rintro e w' ⟨rfl, rfl⟩))
                      go_ret
                      exact ⟨ret_int hv.out.symm, below_drewN hBa _⟩
                    by_cases ha : 4 < r.auth
                    · skip
                      have hv : Hid (rightR rs = 1) := right_hit rs hle 0 1 hlt HZ.out (by rw [err_first rs r ER.out, errOf_first r HT.out]; exact rest_high r (form_ok2 HE.out hl.out hp.out hn.out ho.out hm.out) ha) (by decide)
                      have CL := Lib.hid (codes_val s3 hl.out)
                      have CP := Lib.hid (codes_val s4 hp.out)
                      have CN := Lib.hid (codes_val s5 hn.out)
                      have CO := Lib.hid (in_val s3 s4 ho.out)
                      have CM := Lib.hid (in_val s3 s5 hm.out)
                      go_wp2_with (go_at_call 25; refine (CT.out _).mono ?_; rintro e w1 ⟨rfl, rfl⟩)
                      go_quiet (fail)
                      go_wp2_with (first | (go_at_call 26; (with_reducible refine (CL.out _).mono ?_); rintro e w' ⟨rfl, hq⟩; obtain ⟨n1, rfl⟩ := hq) | (go_at_call 26; (with_reducible refine (CP.out _).mono ?_); rintro e w' ⟨rfl, hq⟩; obtain ⟨n1, rfl⟩ := hq) | (go_at_call 26; (with_reducible refine (CN.out _).mono ?_); rintro e w' ⟨rfl, hq⟩; obtain ⟨n1, rfl⟩ := hq) | (go_at_call 27; (with_reducible refine (CO.out _).mono ?_); rintro e w' ⟨rfl, rfl⟩) | (go_at_call 27; (with_reducible refine (CM.out _).mono ?_); rintro e w' ⟨rfl, rfl⟩))
                      go_ret
                      exact ⟨ret_int hv.out.symm, below_drewN hBa _⟩
                    have ha : 0 ≤ r.auth := by omega
                    have hb4 : r.auth ≤ 4 := by omega
                    have hv : Hid (∀ i, i < 0 + 1 → errW none rs i = 0) := zero_next rs 0 HZ.out (by rw [err_first rs r ER.out, errOf_first r HT.out]; exact rest_ok r (form_ok2 HE.out hl.out hp.out hn.out ho.out hm.out) ha hb4)
                    have CL := Lib.hid (codes_val s3 hl.out)
                    have CP := Lib.hid (codes_val s4 hp.out)
                    have CN := Lib.hid (codes_val s5 hn.out)
                    have CO := Lib.hid (in_val s3 s4 ho.out)
                    have CM := Lib.hid (in_val s3 s5 hm.out)
                    go_wp2_with (go_at_call 25; refine (CT.out _).mono ?_; rintro e w1 ⟨rfl, rfl⟩)
                    go_quiet (fail)
                    go_wp2_with (first | (go_at_call 26; (with_reducible refine (CL.out _).mono ?_); rintro e w' ⟨rfl, hq⟩; obtain ⟨n1, rfl⟩ := hq) | (go_at_call 26; (with_reducible refine (CP.out _).mono ?_); rintro e w' ⟨rfl, hq⟩; obtain ⟨n1, rfl⟩ := hq) | (go_at_call 26; (with_reducible refine (CN.out _).mono ?_); rintro e w' ⟨rfl, hq⟩; obtain ⟨n1, rfl⟩ := hq) | (go_at_call 27; (with_reducible refine (CO.out _).mono ?_); rintro e w' ⟨rfl, rfl⟩) | (go_at_call 27; (with_reducible refine (CM.out _).mono ?_); rintro e w' ⟨rfl, rfl⟩))
                    go_roundw
                    case rel => exact ⟨0 + 1, by omega, by go_num, below_drewN hBa _, hv⟩
                    case measure => simp [intOf]; omega
        · obtain ⟨j, rfl⟩ : ∃ j, k = j + 1 := ⟨k - 1, by omega⟩
          have ER := Lib.hid er
          clear er
          obtain ⟨q, eq⟩ : ∃ q, q = rs[j]! := ⟨_, rfl⟩
          have p0 := ((HC.out.below hB hb).at_ j (Nat.lt_of_succ_lt hlt)).1
          rw [← eq] at p0
          have EQ := Lib.hid eq
          clear eq
          have hw1' : IntKind.i64.wrap ((j : Int) + 1 - 1) = (j : Int) := by rw [IntKind.wrap_i64]; omega
          have ek : (0 : Int) < (j : Int) + 1 := by omega
          have en : (0 : Int) ≤ (j : Int) + 1 := by omega
          have ej : ((j : Int) + 1).toNat = j + 1 := by omega
          have ei : (j : Int) + 1 - 1 = (j : Int) := by omega
          cases h7a : Op.bytesLess r.tag.toList q.tag.toList with
          | true =>
            have h7 := twice_less h7a
            have hv : Hid (rightR rs = 7) := right_hit rs hle (j + 1) 7 hlt HZ.out (by rw [err_later rs j r q ER.out EQ.out]; exact errOf_twice q r HT.out h7) (by decide)
            clear h7
            go_wp2_with (go_at_call 25; refine (CT.out _).mono ?_; rintro e w1 ⟨rfl, rfl⟩)
            go_quiet (fail)
            go_wp2
            go_ret
            exact ⟨ret_int hv.out.symm, below_drewN hBa _⟩
          | false =>
            cases h7b : (r.tag.toList == q.tag.toList) with
            | true =>
              have h7 := twice_same h7b
              have hv : Hid (rightR rs = 7) := right_hit rs hle (j + 1) 7 hlt HZ.out (by rw [err_later rs j r q ER.out EQ.out]; exact errOf_twice q r HT.out h7) (by decide)
              clear h7
              go_wp2_with (go_at_call 25; refine (CT.out _).mono ?_; rintro e w1 ⟨rfl, rfl⟩)
              go_quiet (fail)
              go_wp2
              go_ret
              exact ⟨ret_int hv.out.symm, below_drewN hBa _⟩
            | false =>
              have h7 := twice_not h7a h7b
              by_cases he : r.codes.toList = []
              · skip
                have hv : Hid (rightR rs = 3) := right_hit rs hle (j + 1) 3 hlt HZ.out (by rw [err_later rs j r q ER.out EQ.out, errOf_later q r HT.out h7]; exact rest_form r (form_empty he)) (by decide)
                clear h7
                go_wp2_with (go_at_call 25; refine (CT.out _).mono ?_; rintro e w1 ⟨rfl, rfl⟩)
                go_quiet (fail)
                go_wp2
                go_ret
                exact ⟨ret_int hv.out.symm, below_drewN hBa _⟩
              have he2 : r.codes.toList.isEmpty = false := by simp [he]
              have HE := Lib.hid he
              clear he
              cases hl' : codesB r.codes.data.toList with
              | false =>
                have hl := Lib.hid hl'
                clear hl'
                have hv : Hid (rightR rs = 3) := right_hit rs hle (j + 1) 3 hlt HZ.out (by rw [err_later rs j r q ER.out EQ.out, errOf_later q r HT.out h7]; exact rest_form r (form_list hl.out)) (by decide)
                have CL := Lib.hid (codes_val s3 hl.out)
                clear h7
                go_wp2_with (go_at_call 25; refine (CT.out _).mono ?_; rintro e w1 ⟨rfl, rfl⟩)
                go_quiet (fail)
                go_wp2_with (first | (go_at_call 26; (with_reducible refine (CL.out _).mono ?_); rintro e w' ⟨rfl, hq⟩; obtain ⟨n1, rfl⟩ := hq))
                go_ret
                exact ⟨ret_int hv.out.symm, below_drewN hBa _⟩
              | true =>
                have hl := Lib.hid hl'
                clear hl'
                cases hp' : codesB r.once.data.toList with
                | false =>
                  have hp := Lib.hid hp'
                  clear hp'
                  have hv : Hid (rightR rs = 3) := right_hit rs hle (j + 1) 3 hlt HZ.out (by rw [err_later rs j r q ER.out EQ.out, errOf_later q r HT.out h7]; exact rest_form r (form_once1 hp.out)) (by decide)
                  have CL := Lib.hid (codes_val s3 hl.out)
                  have CP := Lib.hid (codes_val s4 hp.out)
                  clear h7
                  go_wp2_with (go_at_call 25; refine (CT.out _).mono ?_; rintro e w1 ⟨rfl, rfl⟩)
                  go_quiet (fail)
                  go_wp2_with (first | (go_at_call 26; (with_reducible refine (CL.out _).mono ?_); rintro e w' ⟨rfl, hq⟩; obtain ⟨n1, rfl⟩ := hq) | (go_at_call 26; (with_reducible refine (CP.out _).mono ?_); rintro e w' ⟨rfl, hq⟩; obtain ⟨n1, rfl⟩ := hq))
                  go_ret
                  exact ⟨ret_int hv.out.symm, below_drewN hBa _⟩
                | true =>
                  have hp := Lib.hid hp'
                  clear hp'
                  cases hn' : codesB r.needs.data.toList with
                  | false =>
                    have hn := Lib.hid hn'
                    clear hn'
                    have hv : Hid (rightR rs = 3) := right_hit rs hle (j + 1) 3 hlt HZ.out (by rw [err_later rs j r q ER.out EQ.out, errOf_later q r HT.out h7]; exact rest_form r (form_needs1 hn.out)) (by decide)
                    have CL := Lib.hid (codes_val s3 hl.out)
                    have CP := Lib.hid (codes_val s4 hp.out)
                    have CN := Lib.hid (codes_val s5 hn.out)
                    clear h7
                    go_wp2_with (go_at_call 25; refine (CT.out _).mono ?_; rintro e w1 ⟨rfl, rfl⟩)
                    go_quiet (fail)
                    go_wp2_with (first | (go_at_call 26; (with_reducible refine (CL.out _).mono ?_); rintro e w' ⟨rfl, hq⟩; obtain ⟨n1, rfl⟩ := hq) | (go_at_call 26; (with_reducible refine (CP.out _).mono ?_); rintro e w' ⟨rfl, hq⟩; obtain ⟨n1, rfl⟩ := hq) | (go_at_call 26; (with_reducible refine (CN.out _).mono ?_); rintro e w' ⟨rfl, hq⟩; obtain ⟨n1, rfl⟩ := hq))
                    go_ret
                    exact ⟨ret_int hv.out.symm, below_drewN hBa _⟩
                  | true =>
                    have hn := Lib.hid hn'
                    clear hn'
                    cases ho' : inB r.codes.data.toList r.once.data.toList with
                    | false =>
                      have ho := Lib.hid ho'
                      clear ho'
                      have hv : Hid (rightR rs = 3) := right_hit rs hle (j + 1) 3 hlt HZ.out (by rw [err_later rs j r q ER.out EQ.out, errOf_later q r HT.out h7]; exact rest_form r (form_once2 ho.out)) (by decide)
                      have CL := Lib.hid (codes_val s3 hl.out)
                      have CP := Lib.hid (codes_val s4 hp.out)
                      have CN := Lib.hid (codes_val s5 hn.out)
                      have CO := Lib.hid (in_val s3 s4 ho.out)
                      clear h7
                      go_wp2_with (go_at_call 25; refine (CT.out _).mono ?_; rintro e w1 ⟨rfl, rfl⟩)
                      go_quiet (fail)
                      go_wp2_with (first | (go_at_call 26; (with_reducible refine (CL.out _).mono ?_); rintro e w' ⟨rfl, hq⟩; obtain ⟨n1, rfl⟩ := hq) | (go_at_call 26; (with_reducible refine (CP.out _).mono ?_); rintro e w' ⟨rfl, hq⟩; obtain ⟨n1, rfl⟩ := hq) | (go_at_call 26; (with_reducible refine (CN.out _).mono ?_); rintro e w' ⟨rfl, hq⟩; obtain ⟨n1, rfl⟩ := hq) | (go_at_call 27; (with_reducible refine (CO.out _).mono ?_); rintro e w' ⟨rfl, rfl⟩))
                      go_ret
                      exact ⟨ret_int hv.out.symm, below_drewN hBa _⟩
                    | true =>
                      have ho := Lib.hid ho'
                      clear ho'
                      cases hm' : inB r.codes.data.toList r.needs.data.toList with
                      | false =>
                        have hm := Lib.hid hm'
                        clear hm'
                        have hv : Hid (rightR rs = 3) := right_hit rs hle (j + 1) 3 hlt HZ.out (by rw [err_later rs j r q ER.out EQ.out, errOf_later q r HT.out h7]; exact rest_form r (form_needs2 hm.out)) (by decide)
                        have CL := Lib.hid (codes_val s3 hl.out)
                        have CP := Lib.hid (codes_val s4 hp.out)
                        have CN := Lib.hid (codes_val s5 hn.out)
                        have CO := Lib.hid (in_val s3 s4 ho.out)
                        have CM := Lib.hid (in_val s3 s5 hm.out)
                        clear h7
                        go_wp2_with (go_at_call 25; refine (CT.out _).mono ?_; rintro e w1 ⟨rfl, rfl⟩)
                        go_quiet (fail)
                        go_wp2_with (first | (go_at_call 26; (with_reducible refine (CL.out _).mono ?_); rintro e w' ⟨rfl, hq⟩; obtain ⟨n1, rfl⟩ := hq) | (go_at_call 26; (with_reducible refine (CP.out _).mono ?_); rintro e w' ⟨rfl, hq⟩; obtain ⟨n1, rfl⟩ := hq) | (go_at_call 26; (with_reducible refine (CN.out _).mono ?_); rintro e w' ⟨rfl, hq⟩; obtain ⟨n1, rfl⟩ := hq) | (go_at_call 27; (with_reducible refine (CO.out _).mono ?_); rintro e w' ⟨rfl, rfl⟩) | (go_at_call 27; (with_reducible refine (CM.out _).mono ?_); rintro e w' ⟨rfl, rfl⟩))
                        go_ret
                        exact ⟨ret_int hv.out.symm, below_drewN hBa _⟩
                      | true =>
                        have hm := Lib.hid hm'
                        clear hm'
                        by_cases ha : r.auth < 0
                        · skip
                          have hv : Hid (rightR rs = 1) := right_hit rs hle (j + 1) 1 hlt HZ.out (by rw [err_later rs j r q ER.out EQ.out, errOf_later q r HT.out h7]; exact rest_low r (form_ok2 HE.out hl.out hp.out hn.out ho.out hm.out) ha) (by decide)
                          have CL := Lib.hid (codes_val s3 hl.out)
                          have CP := Lib.hid (codes_val s4 hp.out)
                          have CN := Lib.hid (codes_val s5 hn.out)
                          have CO := Lib.hid (in_val s3 s4 ho.out)
                          have CM := Lib.hid (in_val s3 s5 hm.out)
                          clear h7
                          go_wp2_with (go_at_call 25; refine (CT.out _).mono ?_; rintro e w1 ⟨rfl, rfl⟩)
                          go_quiet (fail)
                          go_wp2_with (first | (go_at_call 26; (with_reducible refine (CL.out _).mono ?_); rintro e w' ⟨rfl, hq⟩; obtain ⟨n1, rfl⟩ := hq) | (go_at_call 26; (with_reducible refine (CP.out _).mono ?_); rintro e w' ⟨rfl, hq⟩; obtain ⟨n1, rfl⟩ := hq) | (go_at_call 26; (with_reducible refine (CN.out _).mono ?_); rintro e w' ⟨rfl, hq⟩; obtain ⟨n1, rfl⟩ := hq) | (go_at_call 27; (with_reducible refine (CO.out _).mono ?_); rintro e w' ⟨rfl, rfl⟩) | (go_at_call 27; (with_reducible refine (CM.out _).mono ?_); rintro e w' ⟨rfl, rfl⟩))
                          go_ret
                          exact ⟨ret_int hv.out.symm, below_drewN hBa _⟩
                        by_cases ha : 4 < r.auth
                        · skip
                          have hv : Hid (rightR rs = 1) := right_hit rs hle (j + 1) 1 hlt HZ.out (by rw [err_later rs j r q ER.out EQ.out, errOf_later q r HT.out h7]; exact rest_high r (form_ok2 HE.out hl.out hp.out hn.out ho.out hm.out) ha) (by decide)
                          have CL := Lib.hid (codes_val s3 hl.out)
                          have CP := Lib.hid (codes_val s4 hp.out)
                          have CN := Lib.hid (codes_val s5 hn.out)
                          have CO := Lib.hid (in_val s3 s4 ho.out)
                          have CM := Lib.hid (in_val s3 s5 hm.out)
                          clear h7
                          go_wp2_with (go_at_call 25; refine (CT.out _).mono ?_; rintro e w1 ⟨rfl, rfl⟩)
                          go_quiet (fail)
                          go_wp2_with (first | (go_at_call 26; (with_reducible refine (CL.out _).mono ?_); rintro e w' ⟨rfl, hq⟩; obtain ⟨n1, rfl⟩ := hq) | (go_at_call 26; (with_reducible refine (CP.out _).mono ?_); rintro e w' ⟨rfl, hq⟩; obtain ⟨n1, rfl⟩ := hq) | (go_at_call 26; (with_reducible refine (CN.out _).mono ?_); rintro e w' ⟨rfl, hq⟩; obtain ⟨n1, rfl⟩ := hq) | (go_at_call 27; (with_reducible refine (CO.out _).mono ?_); rintro e w' ⟨rfl, rfl⟩) | (go_at_call 27; (with_reducible refine (CM.out _).mono ?_); rintro e w' ⟨rfl, rfl⟩))
                          go_ret
                          exact ⟨ret_int hv.out.symm, below_drewN hBa _⟩
                        have ha : 0 ≤ r.auth := by omega
                        have hb4 : r.auth ≤ 4 := by omega
                        have hv : Hid (∀ i, i < (j + 1) + 1 → errW none rs i = 0) := zero_next rs (j + 1) HZ.out (by rw [err_later rs j r q ER.out EQ.out, errOf_later q r HT.out h7]; exact rest_ok r (form_ok2 HE.out hl.out hp.out hn.out ho.out hm.out) ha hb4)
                        have CL := Lib.hid (codes_val s3 hl.out)
                        have CP := Lib.hid (codes_val s4 hp.out)
                        have CN := Lib.hid (codes_val s5 hn.out)
                        have CO := Lib.hid (in_val s3 s4 ho.out)
                        have CM := Lib.hid (in_val s3 s5 hm.out)
                        clear h7
                        go_wp2_with (go_at_call 25; refine (CT.out _).mono ?_; rintro e w1 ⟨rfl, rfl⟩)
                        go_quiet (fail)
                        go_wp2_with (first | (go_at_call 26; (with_reducible refine (CL.out _).mono ?_); rintro e w' ⟨rfl, hq⟩; obtain ⟨n1, rfl⟩ := hq) | (go_at_call 26; (with_reducible refine (CP.out _).mono ?_); rintro e w' ⟨rfl, hq⟩; obtain ⟨n1, rfl⟩ := hq) | (go_at_call 26; (with_reducible refine (CN.out _).mono ?_); rintro e w' ⟨rfl, hq⟩; obtain ⟨n1, rfl⟩ := hq) | (go_at_call 27; (with_reducible refine (CO.out _).mono ?_); rintro e w' ⟨rfl, rfl⟩) | (go_at_call 27; (with_reducible refine (CM.out _).mono ?_); rintro e w' ⟨rfl, rfl⟩))
                        go_roundw
                        case rel => exact ⟨(j + 1) + 1, by omega, by go_num, below_drewN hBa _, hv⟩
                        case measure => simp [intOf]; omega
    · obtain rfl : k = rs.length := by omega
      have hv := Lib.hid (right_ok rs hle HZ.out)
      go_wp2
      go_ret
      exact ⟨ret_int hv.out.symm, hB⟩
end Go.Proofs.YtgpmbkbhkjepgaaDoor
