/-
  THE WALK OF RulesRight: true; what lay in memory lies there still. Conditions: the table in block 0 reads as its initialiser lays it; the list lies in memory as told.
-/
import Derived.Test.YtgpmbkbhkjepgaaDoorChkH
import Derived.Test.YtgpmbkbhkjepgaaDoorRuleD
import Derived.Test.YtgpmbkbhkjepgaaDoorRuleE
namespace Go.Proofs.YtgpmbkbhkjepgaaDoor
open Go.RowKit

theorem small_len {rs : List Rule} (h : smallR rs = true) : rs.length ≤ 60 := by
  rw [smallR, Bool.and_eq_true] at h
  exact of_decide_eq_true h.1
theorem small_short {rs : List Rule} (h : smallR rs = true) : ∀ j, j < rs.length → Short rs[j]! := fun j hj => by
  rw [smallR, Bool.and_eq_true, List.all_eq_true] at h
  have := h.2 rs[j] (List.getElem_mem hj)
  rw [getElem!_pos rs j hj]
  simp only [shortB, Bool.and_eq_true, decide_eq_true_eq] at this
  exact ⟨this.1, this.2.1, this.2.2.1, this.2.2.2⟩

set_option maxHeartbeats 1000000 in
theorem law_right (b off c : Nat) (rs : List Rule) (w : World) (hs : RulesAt w 0 0 stdR) (hb : b < w.heap.size) (hc : RulesAt w b off rs) (hbig : rs.length ≤ 9223372036854775807) :
    Calls Tryd.prog 4 #[.slice (some ⟨b, off, none⟩) rs.length c] w fun e w' => e = .returned (.bool true) ∧ Below w.heap.size w w' := by
  have HAL := Lib.hid (alive_any w hs)
  have HC := Lib.hid hc
  clear hs hc
  have HSM : Hid (∀ W, Below w.heap.size w W → Calls Tryd.prog 12 #[.slice (some ⟨b, off, none⟩) rs.length c, .agg #[.int .i64 0, .int .i64 0, .int .i64 0, .string ⟨#[]⟩, .slice none 0 0]] W fun e w' => e = .returned (.bool (smallR rs)) ∧ Below W.heap.size W w') :=
    fun W hW => small_any b off c rs W (Nat.lt_of_lt_of_le hb hW.size) (HC.out.below hW hb) hbig
  cases hsm : smallR rs with
  | false =>
    rw [hsm] at HSM
    clear hsm
    go_enter Tryd.func4, Tryd.ntmps4
    go_wp2_with (first
      | (go_at_call 9; refine HAL.out.mono ?_; rintro e w1 ⟨rfl, hb1⟩)
      | (go_at_call 12; refine (HSM.out _ hb1).mono ?_; rintro e w2 ⟨rfl, hb2⟩))
    go_ret
    exact ⟨rfl, hb1.trans (hb2.mono hb1.size)⟩
  | true =>
    have h60 := small_len hsm
    have hsh := Lib.hid (small_short hsm)
    have HRI : Hid (∀ W, Below w.heap.size w W → Calls Tryd.prog 11 #[.slice (some ⟨b, off, none⟩) rs.length c] W fun e w' => e = .returned (.int .i64 (rightR rs)) ∧ Below W.heap.size W w') :=
      fun W hW => right_any b off c rs W (Nat.lt_of_lt_of_le hb hW.size) (HC.out.below hW hb) hsh.out (by omega)
    have HRR : Hid (∀ W, Below w.heap.size w W → Calls Tryd.prog 13 #[.slice (some ⟨b, off, none⟩) rs.length c] W fun e w' => e = .returned (.int .i64 (rightR rs)) ∧ Below W.heap.size W w') :=
      fun W hW => refright_any b off c rs W (Nat.lt_of_lt_of_le hb hW.size) (HC.out.below hW hb) hsh.out (by omega)
    rw [hsm] at HSM
    clear hsm
    go_enter Tryd.func4, Tryd.ntmps4
    go_wp2_with (first
      | (go_at_call 9; refine HAL.out.mono ?_; rintro e w1 ⟨rfl, hb1⟩)
      | (go_at_call 12; refine (HSM.out _ hb1).mono ?_; rintro e w2 ⟨rfl, hb2⟩; have hb3 := hb1.trans (hb2.mono hb1.size))
      | (go_at_call 11; refine (HRI.out _ hb3).mono ?_; rintro e w3 ⟨rfl, hb4⟩; have hb5 := hb3.trans (hb4.mono hb3.size))
      | (go_at_call 13; refine (HRR.out _ hb5).mono ?_; rintro e w4 ⟨rfl, hb6⟩; have hb7 := hb5.trans (hb6.mono hb5.size)))
    go_ret
    exact ⟨ret_bool (by simp), hb7⟩

set_option maxHeartbeats 1000000 in
theorem right_none (A : Option Addr) (c : Nat) (w : World) : Calls Tryd.prog 11 #[.slice A 0 c] w fun e w' => e = .returned (.int .i64 0) ∧ w = w' := by
  go_enter Tryd.func11, Tryd.ntmps11
  go_wp2
  go_loop [3, 4, 10] (fun _ _ i => i = .int .i64 0) (fun _ _ _ => 0)
  case atStart => rfl
  case round =>
    subst hrel
    go_wp2
    go_ret
    exact ⟨rfl, rfl⟩
set_option maxHeartbeats 1000000 in
theorem refright_none (A : Option Addr) (c : Nat) (w : World) : Calls Tryd.prog 13 #[.slice A 0 c] w fun e w' => e = .returned (.int .i64 0) ∧ w = w' := by
  go_enter Tryd.func13, Tryd.ntmps13
  go_wp2
  go_loop [3, 4] (fun i _ => i = .int .i64 0) (fun _ _ => 0)
  case atStart => rfl
  case round =>
    subst hrel
    go_wp2
    go_ret
    exact ⟨rfl, rfl⟩
set_option maxHeartbeats 1000000 in
theorem small_none (A : Option Addr) (c : Nat) (w : World) :
    Calls Tryd.prog 12 #[.slice A 0 c, .agg #[.int .i64 0, .int .i64 0, .int .i64 0, .string ⟨#[]⟩, .slice none 0 0]] w fun e w' => e = .returned (.bool true) ∧ Below w.heap.size w w' := by
  go_enter Tryd.func12, Tryd.ntmps12
  go_wp2
  go_loop [5] (fun i => i = .int .i64 0) (fun _ => 0)
  case atStart => rfl
  case round =>
    subst hrel
    go_wp2
    go_loop [6] (fun i => i = .int .i64 0) (fun _ => 0)
    case atStart => rfl
    case round =>
      subst hrel
      go_wp2
      go_ret
      exact ⟨rfl, (Below.refl _ _).alloc (Nat.le_refl _) _⟩
set_option maxHeartbeats 1000000 in
theorem law_right_none (A : Option Addr) (c : Nat) (w : World) (hs : RulesAt w 0 0 stdR) : Calls Tryd.prog 4 #[.slice A 0 c] w fun e w' => e = .returned (.bool true) ∧ Below w.heap.size w w' := by
  have HAL := Lib.hid (alive_any w hs)
  clear hs
  go_enter Tryd.func4, Tryd.ntmps4
  go_wp2_with (first
    | (go_at_call 9; refine HAL.out.mono ?_; rintro e w1 ⟨rfl, hb1⟩)
    | (go_at_call 12; refine (small_none _ _ _).mono ?_; rintro e w2 ⟨rfl, hb2⟩)
    | (go_at_call 11; refine (right_none _ _ _).mono ?_; rintro e w3 ⟨rfl, rfl⟩)
    | (go_at_call 13; refine (refright_none _ _ _).mono ?_; rintro e w4 ⟨rfl, rfl⟩))
  go_ret
  exact ⟨rfl, hb1.trans (hb2.mono hb1.size)⟩
end Go.Proofs.YtgpmbkbhkjepgaaDoor
