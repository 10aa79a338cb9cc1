/-
  THE WALK OF rules.list: it returns whether a text is a list of codes, and leaves the world as it was. Condition: the text is no longer than a text can be.
-/
import Derived.Test.YtgpmbkbhkjepgaaDoorTextA
namespace Go.Proofs.YtgpmbkbhkjepgaaDoor
open Go.RowKit

theorem codes_bad (s : ByteArray) (k : Nat) (h : k < s.size) (hb : okc s[k] = false) : codesB s.data.toList = false := by
  refine codes_take _ (k + 1) ?_
  rw [take_snoc s k h]
  unfold codesB
  rw [List.all_append]
  simp [hb]
theorem codes_down (s : ByteArray) (k : Nat) (h : k + 1 < s.size) (hb : ¬ s[k].toNat < s[k + 1].toNat) : codesB s.data.toList = false := by
  refine codes_take _ (k + 2) ?_
  rw [codes_next s k h, decide_eq_false hb]
  simp
theorem codes_one (s : ByteArray) (h : 0 < s.size) (hb : okc s[0] = true) : codesB (s.data.toList.take (0 + 1)) = true := by
  rw [codes_first s h, hb]
theorem codes_more (s : ByteArray) (k : Nat) (h : k + 1 < s.size) (hm : codesB (s.data.toList.take (k + 1)) = true) (hb : okc s[k + 1] = true) (hl : s[k].toNat < s[k + 1].toNat) : codesB (s.data.toList.take (k + 1 + 1)) = true := by
  show codesB (s.data.toList.take (k + 2)) = true
  rw [codes_next s k h, hm, hb, decide_eq_true hl]; rfl
theorem okc_true (b : UInt8) (h : okc b = true) : (48 ≤ (b.toNat : Int) ∧ (b.toNat : Int) ≤ 57) ∨ (97 ≤ (b.toNat : Int) ∧ (b.toNat : Int) ≤ 122) := by
  unfold okc at h
  simp at h
  omega
theorem okc_false (b : UInt8) (h : okc b = false) : (b.toNat : Int) < 48 ∨ (57 < (b.toNat : Int) ∧ (b.toNat : Int) < 97) ∨ 122 < (b.toNat : Int) := by
  unfold okc at h
  simp at h
  omega

set_option maxHeartbeats 1000000 in
theorem list_any (s : ByteArray) (w : World) (hs : s.size ≤ 9223372036854775807) :
    Calls Tryd.prog 23 #[.string s] w fun e w' => e = .returned (.bool (codesB s.data.toList)) ∧ w = w' := by
  go_enter Tryd.func23, Tryd.ntmps23
  go_wp2
  go_loop [3, 4, 7] (fun _ _ i => ∃ k : Nat, k ≤ s.size ∧ i = .int .i64 k ∧ Hid (codesB (s.data.toList.take k) = true)) (fun _ _ i => s.size - (intOf i).toNat)
  case atStart => exact ⟨0, Nat.zero_le _, rfl, rfl⟩
  case round =>
    obtain ⟨k, hk, rfl, H⟩ := hrel
    by_cases hlt : k < s.size
    · cases hok : okc s[k] with
      | false =>
        have hh := Lib.hid (codes_bad s k hlt hok)
        rcases okc_false _ hok with h1 | ⟨h1, h2⟩ | h1
        all_goals
          clear hok
          go_wp2
          go_ret
          exact ⟨ret_bool hh.out.symm, rfl⟩
      | true =>
        rcases Nat.eq_zero_or_pos k with h0 | h0
        · subst h0
          have hh := Lib.hid (codes_one s hlt hok)
          rcases okc_true _ hok with ⟨h1, h2⟩ | ⟨h1, h2⟩
          all_goals
            clear hok
            go_wp2
            go_round
            case rel => exact ⟨1, by omega, by go_num, hh⟩
            case measure => simp [intOf]; omega
        · obtain ⟨j, rfl⟩ : ∃ j, k = j + 1 := ⟨k - 1, by omega⟩
          by_cases hl : s[j].toNat < s[j + 1].toNat
          · have hh := Lib.hid (codes_more s j hlt H.out hok hl)
            have hl2 : (s[j].toNat : Int) < (s[j + 1].toNat : Int) := by omega
            rcases okc_true _ hok with ⟨h1, h2⟩ | ⟨h1, h2⟩
            all_goals
              clear hok hl
              go_wp2
              go_round
              case rel => exact ⟨j + 1 + 1, by omega, by go_num, hh⟩
              case measure => simp [intOf]; omega
          · have hh := Lib.hid (codes_down s j hlt hl)
            have hl2 : (s[j + 1].toNat : Int) ≤ (s[j].toNat : Int) := by omega
            rcases okc_true _ hok with ⟨h1, h2⟩ | ⟨h1, h2⟩
            all_goals
              clear hok hl
              go_wp2
              go_ret
              exact ⟨ret_bool hh.out.symm, rfl⟩
    · obtain rfl : k = s.size := by omega
      go_wp2
      go_ret
      have := H.out
      rw [take_all] at this
      exact ⟨ret_bool this.symm, rfl⟩
end Go.Proofs.YtgpmbkbhkjepgaaDoor
