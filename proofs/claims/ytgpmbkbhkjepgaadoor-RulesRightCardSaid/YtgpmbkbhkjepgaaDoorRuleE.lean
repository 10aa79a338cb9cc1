/-
  THE WALK OF THE REFERENCE's Small at a record without fields: it returns whether the list is of moderate size; what lay in memory lies there still. Conditions: the list lies in memory as told.
-/
import Derived.Test.YtgpmbkbhkjepgaaDoorRuleA
namespace Go.Proofs.YtgpmbkbhkjepgaaDoor
open Go.RowKit

def shortB (r : Rule) : Bool := decide (r.tag.size ≤ 100) && (decide (r.codes.size ≤ 100) && (decide (r.once.size ≤ 100) && decide (r.needs.size ≤ 100)))
def smallR (rs : List Rule) : Bool := decide (rs.length ≤ 60) && rs.all shortB
theorem small_many (rs : List Rule) (h : 60 < rs.length) : smallR rs = false := by rw [smallR, decide_eq_false (by omega)]; rfl
theorem small_ok (rs : List Rule) (h : rs.length ≤ 60) (hz : ∀ j, j < rs.length → shortB rs[j]! = true) : smallR rs = true := by
  rw [smallR, decide_eq_true h, Bool.true_and, List.all_eq_true]
  intro x hx
  obtain ⟨j, hj, rfl⟩ := List.getElem_of_mem hx
  have := hz j hj
  rwa [getElem!_pos rs j hj] at this
theorem small_bad (rs : List Rule) (k : Nat) (hk : k < rs.length) (r : Rule) (er : r = rs[k]!) (h : shortB r = false) : smallR rs = false := by
  cases e : smallR rs with
  | false => rfl
  | true =>
    rw [smallR, Bool.and_eq_true, List.all_eq_true] at e
    have := e.2 rs[k] (List.getElem_mem hk)
    rw [er, getElem!_pos rs k hk, this] at h
    cases h
theorem short_next (rs : List Rule) (k : Nat) (h : ∀ j, j < k → shortB rs[j]! = true) (r : Rule) (er : r = rs[k]!) (hr : shortB r = true) : ∀ j, j < k + 1 → shortB rs[j]! = true := fun j hj => by
  by_cases e : j = k
  · rw [e, ← er]; exact hr
  · exact h j (by omega)

set_option maxHeartbeats 2000000 in
theorem small_any (b off c : Nat) (rs : List Rule) (w : World) (hb : b < w.heap.size) (hc : RulesAt w b off rs) (hbig : rs.length ≤ 9223372036854775807) :
    Calls Tryd.prog 12 #[.slice (some ⟨b, off, none⟩) rs.length c, .agg #[.int .i64 0, .int .i64 0, .int .i64 0, .string ⟨#[]⟩, .slice none 0 0]] w fun e w' => e = .returned (.bool (smallR rs)) ∧ Below w.heap.size w w' := by
  by_cases h60 : 60 < rs.length
  · have hv := Lib.hid (small_many rs h60)
    clear hc
    go_enter Tryd.func12, Tryd.ntmps12
    go_wp2
    go_ret
    exact ⟨ret_bool hv.out.symm, (Below.refl _ _).alloc (Nat.le_refl _) _⟩
  have hle : rs.length ≤ 60 := by omega
  have HC := Lib.hid hc
  clear hc h60
  go_enter Tryd.func12, Tryd.ntmps12
  go_wp2
  go_loop [5] (fun i => ∃ k : Nat, k ≤ rs.length ∧ i = .int .i64 k ∧ Hid (∀ j, j < k → shortB rs[j]! = true)) (fun i => rs.length - (intOf i).toNat)
  case atStart => exact ⟨0, Nat.zero_le _, rfl, fun j hj => absurd hj (Nat.not_lt_zero _)⟩
  case round =>
    obtain ⟨k, hk, rfl, HZ⟩ := hrel
    by_cases hlt : k < rs.length
    · obtain ⟨c0, c1, c2, c3, c4, c5, c6⟩ := HC.out.at_ k hlt
      obtain ⟨r, er⟩ : ∃ r, r = rs[k]! := ⟨_, rfl⟩
      rw [← er] at c0 c1 c2 c3 c4 c5 c6
      have ER := Lib.hid er
      clear er
      by_cases h0 : 100 < r.tag.size
      · have hv := Lib.hid (small_bad rs k hlt r ER.out (by rw [shortB, decide_eq_false (by omega)]; rfl))
        go_wp2
        go_ret
        exact ⟨ret_bool hv.out.symm, (Below.refl _ _).alloc (Nat.le_refl _) _⟩
      by_cases h3 : 100 < r.codes.size
      · have hv := Lib.hid (small_bad rs k hlt r ER.out (by rw [shortB, decide_eq_false (p := r.codes.size ≤ 100) (by omega)]; simp))
        go_wp2
        go_ret
        exact ⟨ret_bool hv.out.symm, (Below.refl _ _).alloc (Nat.le_refl _) _⟩
      by_cases h4 : 100 < r.once.size
      · have hv := Lib.hid (small_bad rs k hlt r ER.out (by rw [shortB, decide_eq_false (p := r.once.size ≤ 100) (by omega)]; simp))
        go_wp2
        go_ret
        exact ⟨ret_bool hv.out.symm, (Below.refl _ _).alloc (Nat.le_refl _) _⟩
      by_cases h5 : 100 < r.needs.size
      · have hv := Lib.hid (small_bad rs k hlt r ER.out (by rw [shortB, decide_eq_false (p := r.needs.size ≤ 100) (by omega)]; simp))
        go_wp2
        go_ret
        exact ⟨ret_bool hv.out.symm, (Below.refl _ _).alloc (Nat.le_refl _) _⟩
      have hv : Hid (∀ j, j < k + 1 → shortB rs[j]! = true) := short_next rs k HZ.out r ER.out (by simp [shortB]; omega)
      go_wp2
      go_round
      case rel => exact ⟨k + 1, by omega, by go_num, hv⟩
      case measure => simp [intOf]; omega
    · obtain rfl : k = rs.length := by omega
      have hv := Lib.hid (small_ok rs hle HZ.out)
      go_wp2
      go_loop [6] (fun i => i = .int .i64 0) (fun _ => 0)
      case atStart => rfl
      case round =>
        subst hrel
        go_wp2
        go_ret
        exact ⟨ret_bool hv.out.symm, (Below.refl _ _).alloc (Nat.le_refl _) _⟩
end Go.Proofs.YtgpmbkbhkjepgaaDoor
