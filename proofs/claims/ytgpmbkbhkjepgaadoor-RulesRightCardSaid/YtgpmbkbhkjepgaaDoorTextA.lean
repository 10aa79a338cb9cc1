/-
  THE WALKS OF THE REFERENCE's FUNCTIONS ON TEXTS: Has, Within. Each returns what the plain function says, and leaves the world as it was. Condition: the text is no longer than a text can be.
-/
import Derived.Test.YtgpmbkbhkjepgaaDoorPlain
import Derived.Test.YtgpmbkbhkjepgaaDoorProg
import Derived.WalkKit
import Derived.WalkSpells
import Derived.WalkLawsBesides
import Derived.Lib.Hide
namespace Go.Proofs.YtgpmbkbhkjepgaaDoor
open Go.RowKit

theorem ret_bool {a b : Bool} (h : a = b) : Ending.returned (.bool a) = .returned (.bool b) := by rw [h]
theorem ret_int {k : IntKind} {a b : Int} (h : a = b) : Ending.returned (.int k a) = .returned (.int k b) := by rw [h]

set_option maxHeartbeats 400000 in
theorem has_any (s : ByteArray) (c : Int) (w : World) (hs : s.size ≤ 9223372036854775807) :
    Calls Tryd.prog 31 #[.string s, .int .u8 c] w fun e w' => e = .returned (.bool (hasB s.data.toList c)) ∧ w = w' := by
  go_enter Tryd.func31, Tryd.ntmps31
  go_wp2
  go_loop [5] (fun i => ∃ k : Nat, k ≤ s.size ∧ i = .int .i64 k ∧ Hid (hasB (s.data.toList.take k) c = false)) (fun i => s.size - (intOf i).toNat)
  case atStart => exact ⟨0, Nat.zero_le _, rfl, rfl⟩
  case round =>
    obtain ⟨k, hk, rfl, H⟩ := hrel
    by_cases hlt : k < s.size
    · by_cases hc : (s[k].toNat : Int) = c
      · have hh := Lib.hid (has_hit s k c hlt hc)
        have hc1 : ((s[k].toNat : Int) == c) = true := by simp [hc]
        clear hc
        go_wp2
        go_ret
        exact ⟨ret_bool hh.out.symm, rfl⟩
      · have hh := Lib.hid (has_miss s k c hlt H.out hc)
        have hc1 : ((s[k].toNat : Int) == c) = false := by simp [hc]
        clear hc
        go_wp2
        go_round
        case rel => exact ⟨k + 1, by omega, by go_num, hh⟩
        case measure => simp [intOf]; omega
    · obtain rfl : k = s.size := by omega
      go_wp2
      go_ret
      have := H.out
      rw [take_all] at this
      exact ⟨ret_bool this.symm, rfl⟩

set_option maxHeartbeats 400000 in
theorem inB_any (a s : ByteArray) (w : World) (ha : a.size ≤ 9223372036854775807) (hs : s.size ≤ 9223372036854775807) :
    Calls Tryd.prog 27 #[.string a, .string s] w fun e w' => e = .returned (.bool (inB a.data.toList s.data.toList)) ∧ w = w' := by
  go_enter Tryd.func27, Tryd.ntmps27
  go_wp2
  go_loop [5] (fun i => ∃ k : Nat, k ≤ s.size ∧ i = .int .i64 k ∧ Hid (inB a.data.toList (s.data.toList.take k) = true)) (fun i => s.size - (intOf i).toNat)
  case atStart => exact ⟨0, Nat.zero_le _, rfl, rfl⟩
  case round =>
    obtain ⟨k, hk, rfl, H⟩ := hrel
    by_cases hlt : k < s.size
    · have hcall := Lib.hid (has_any a s[k].toNat w ha)
      cases hc : hasB a.data.toList s[k].toNat with
      | false =>
        have hh := Lib.hid (in_stop a.data.toList s k hlt hc)
        rw [hc] at hcall
        clear hc
        go_wp2_with (go_at_call 31; refine hcall.out.mono ?_; rintro e w' ⟨rfl, rfl⟩)
        go_ret
        exact ⟨ret_bool hh.out.symm, rfl⟩
      | true =>
        have hh := Lib.hid (in_next a.data.toList s k hlt H.out hc)
        rw [hc] at hcall
        clear hc
        go_wp2_with (go_at_call 31; refine hcall.out.mono ?_; rintro e w' ⟨rfl, rfl⟩)
        go_round
        case rel => exact ⟨k + 1, by omega, by go_num, hh⟩
        case measure => simp [intOf]; omega
    · obtain rfl : k = s.size := by omega
      go_wp2
      go_ret
      have := H.out
      rw [take_all] at this
      exact ⟨ret_bool this.symm, rfl⟩
end Go.Proofs.YtgpmbkbhkjepgaaDoor
