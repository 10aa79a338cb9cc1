/-
  THE PLAIN LAWS OF LAYER 9 (rules), with no program in sight: what a list of codes is, what a tag is, that the bytes that Trim leaves are none just where all of them lie in the cutset, what the errors of a list of rules are. No condition.
-/
import Derived.Lib.SlTrimSet
import Derived.Below
namespace Go.Proofs.YtgpmbkbhkjepgaaDoor
open Go.RowKit

/-- A byte that may be a code. -/
def okc (b : UInt8) : Bool := (decide (48 ≤ b.toNat) && decide (b.toNat ≤ 57)) || (decide (97 ≤ b.toNat) && decide (b.toNat ≤ 122))
/-- The list goes up. -/
def ups : List UInt8 → Bool
  | [] => true
  | [_] => true
  | a :: b :: r => decide (a.toNat < b.toNat) && ups (b :: r)
/-- A list of codes. -/
def codesB (l : List UInt8) : Bool := l.all okc && ups l
def hasB (l : List UInt8) (c : Int) : Bool := l.any fun b => decide ((b.toNat : Int) = c)
def inB (all l : List UInt8) : Bool := l.all fun b => hasB all b.toNat

theorem take_snoc (s : ByteArray) (k : Nat) (h : k < s.size) : s.data.toList.take (k + 1) = s.data.toList.take k ++ [s[k]] := by
  rw [List.take_succ_eq_append_getElem (by simpa using h)]; rfl
theorem take_all (s : ByteArray) : s.data.toList.take s.size = s.data.toList := List.take_of_length_le (by simp)
theorem any_take {α : Type} (p : α → Bool) (l : List α) (k : Nat) (h : (l.take k).any p = true) : l.any p = true := by
  rw [← List.take_append_drop k l, List.any_append, h]; rfl
theorem all_take {α : Type} (p : α → Bool) (l : List α) (k : Nat) (h : (l.take k).all p = false) : l.all p = false := by
  rw [← List.take_append_drop k l, List.all_append, h]; rfl

theorem has_miss (s : ByteArray) (k : Nat) (c : Int) (h : k < s.size) (hm : hasB (s.data.toList.take k) c = false) (hn : ¬ (s[k].toNat : Int) = c) : hasB (s.data.toList.take (k + 1)) c = false := by
  unfold hasB at hm ⊢
  rw [take_snoc s k h, List.any_append, hm]
  simp [hn]
theorem has_hit (s : ByteArray) (k : Nat) (c : Int) (h : k < s.size) (hn : (s[k].toNat : Int) = c) : hasB s.data.toList c = true := by
  refine any_take _ _ (k + 1) ?_
  rw [take_snoc s k h, List.any_append]
  simp [hn]

theorem in_next (all : List UInt8) (s : ByteArray) (k : Nat) (h : k < s.size) (hm : inB all (s.data.toList.take k) = true) (hn : hasB all s[k].toNat = true) : inB all (s.data.toList.take (k + 1)) = true := by
  unfold inB at hm ⊢
  rw [take_snoc s k h, List.all_append, hm]
  simp [hn]
theorem in_stop (all : List UInt8) (s : ByteArray) (k : Nat) (h : k < s.size) (hn : hasB all s[k].toNat = false) : inB all s.data.toList = false := by
  refine all_take _ _ (k + 1) ?_
  rw [take_snoc s k h, List.all_append]
  simp [hn]

theorem ups_snoc : ∀ (l : List UInt8) (a b : UInt8), ups (l ++ [a, b]) = (ups (l ++ [a]) && decide (a.toNat < b.toNat))
  | [], a, b => by simp [ups]
  | [x], a, b => by simp [ups]
  | x :: y :: r, a, b => by
    have ih := ups_snoc (y :: r) a b
    simp only [List.cons_append] at ih ⊢
    simp only [ups, ih, Bool.and_assoc]
theorem take_two (s : ByteArray) (k : Nat) (h : k + 1 < s.size) : s.data.toList.take (k + 2) = s.data.toList.take k ++ [s[k], s[k + 1]] := by
  rw [take_snoc s (k + 1) h, take_snoc s k (by omega), List.append_assoc]; rfl
/-- One more byte: the first. -/
theorem codes_first (s : ByteArray) (h : 0 < s.size) : codesB (s.data.toList.take (0 + 1)) = okc s[0] := by
  rw [take_snoc s 0 h]; simp [codesB, ups]
/-- One more byte behind another one. -/
theorem codes_next (s : ByteArray) (k : Nat) (h : k + 1 < s.size) : codesB (s.data.toList.take (k + 2)) = (codesB (s.data.toList.take (k + 1)) && (okc s[k + 1] && decide (s[k].toNat < s[k + 1].toNat))) := by
  unfold codesB
  rw [take_two s k h, take_snoc s k (by omega), ups_snoc]
  simp only [List.all_append, List.all_cons, List.all_nil, Bool.and_true]
  cases (List.take k s.data.toList).all okc <;> cases okc s[k] <;> cases okc s[k + 1] <;> simp
theorem ups_take : ∀ (l r : List UInt8), ups (l ++ r) = true → ups l = true
  | [], _, _ => rfl
  | [_], _, _ => rfl
  | a :: b :: l, r, h => by
    simp only [List.cons_append, ups, Bool.and_eq_true] at h ⊢
    exact ⟨h.1, ups_take (b :: l) r h.2⟩
theorem codes_take (l : List UInt8) (k : Nat) (h : codesB (l.take k) = false) : codesB l = false := by
  cases hc : codesB l with
  | false => rfl
  | true =>
    unfold codesB at h hc
    rw [Bool.and_eq_true] at hc
    have h1 : (l.take k).all okc = true := by
      rw [List.all_eq_true] at hc ⊢
      exact fun x hx => hc.1 x (List.mem_of_mem_take hx)
    have h2 : ups (l.take k) = true := ups_take _ (l.drop k) (by rw [List.take_append_drop]; exact hc.2)
    rw [h1, h2] at h
    cases h
end Go.Proofs.YtgpmbkbhkjepgaaDoor
