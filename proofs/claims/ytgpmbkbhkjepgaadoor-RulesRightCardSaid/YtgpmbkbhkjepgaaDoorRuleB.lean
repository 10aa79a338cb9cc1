/-
  THE PLAIN LAW OF Right: the first error of a list of rules, by its place. No condition.
-/
import Derived.Test.YtgpmbkbhkjepgaaDoorRuleA
namespace Go.Proofs.YtgpmbkbhkjepgaaDoor
open Go.RowKit

/-- The codes of a rule are as they should be. -/
def formB (x : Rule) : Bool := !x.codes.toList.isEmpty && (codesB x.codes.data.toList && ((codesB x.once.data.toList && inB x.codes.data.toList x.once.data.toList) && (codesB x.needs.data.toList && inB x.codes.data.toList x.needs.data.toList)))
/-- A tag is not greater than the one before. -/
def twiceB (p x : Rule) : Bool := Op.bytesLess x.tag.toList p.tag.toList || x.tag.toList == p.tag.toList
def restErr (x : Rule) : Int := if formB x = false then 3 else if x.auth < 0 ∨ 4 < x.auth then 1 else 0
def errOf (p : Option Rule) (x : Rule) : Int :=
  if tagB x.tag.data.toList = false then 6 else match p with
    | none => restErr x
    | some y => if twiceB y x = true then 7 else restErr x
/-- The error at a place. -/
def errW (p : Option Rule) (rs : List Rule) : Nat → Int
  | 0 => errOf p rs[0]!
  | k + 1 => errOf (some rs[k]!) rs[k + 1]!
def rightFrom (p : Option Rule) : List Rule → Int
  | [] => 0
  | x :: r => if errOf p x = 0 then rightFrom (some x) r else errOf p x
/-- The error of a list of rules. -/
def rightR (rs : List Rule) : Int := if 32 < rs.length then 13 else rightFrom none rs

theorem errW_cons (p : Option Rule) (x : Rule) (r : List Rule) (k : Nat) : errW p (x :: r) (k + 1) = errW (some x) r k := by
  cases k <;> simp [errW]
theorem rightFrom_zero : ∀ (rs : List Rule) (p : Option Rule), (∀ k, k < rs.length → errW p rs k = 0) → rightFrom p rs = 0
  | [], _, _ => rfl
  | x :: r, p, h => by
    have h0 : errOf p x = 0 := by simpa [errW] using h 0 (Nat.succ_pos _)
    rw [rightFrom, if_pos h0]
    exact rightFrom_zero r (some x) fun k hk => by rw [← errW_cons p]; exact h (k + 1) (by simpa using hk)
theorem rightFrom_hit : ∀ (rs : List Rule) (p : Option Rule) (K : Nat), K < rs.length → (∀ k, k < K → errW p rs k = 0) → errW p rs K ≠ 0 → rightFrom p rs = errW p rs K
  | [], _, K, hK, _, _ => absurd hK (Nat.not_lt_zero _)
  | x :: r, p, 0, _, _, hne => by
    have h0 : errW p (x :: r) 0 = errOf p x := by simp [errW]
    rw [h0] at hne ⊢
    rw [rightFrom, if_neg hne]
  | x :: r, p, K + 1, hK, h, hne => by
    have h0 : errOf p x = 0 := by simpa [errW] using h 0 (Nat.succ_pos _)
    rw [rightFrom, if_pos h0]
    rw [errW_cons] at hne ⊢
    exact rightFrom_hit r (some x) K (by simpa using hK) (fun k hk => by rw [← errW_cons p]; exact h (k + 1) (by omega)) hne

theorem right_many (rs : List Rule) (h : 32 < rs.length) : rightR rs = 13 := by rw [rightR, if_pos h]
theorem right_ok (rs : List Rule) (h : rs.length ≤ 32) (hz : ∀ k, k < rs.length → errW none rs k = 0) : rightR rs = 0 := by
  rw [rightR, if_neg (by omega)]; exact rightFrom_zero rs none hz
theorem right_hit (rs : List Rule) (h : rs.length ≤ 32) (K : Nat) (v : Int) (hK : K < rs.length) (hz : ∀ k, k < K → errW none rs k = 0) (hv : errW none rs K = v) (hne : v ≠ 0) : rightR rs = v := by
  rw [rightR, if_neg (by omega), rightFrom_hit rs none K hK hz (by rw [hv]; exact hne), hv]

theorem zero_next (rs : List Rule) (k : Nat) (h : ∀ j, j < k → errW none rs j = 0) (hk : errW none rs k = 0) : ∀ j, j < k + 1 → errW none rs j = 0 := fun j hj => by
  by_cases e : j = k
  · rw [e]; exact hk
  · exact h j (by omega)

/-- The error of the first rule, of a later one. -/
theorem err_first (rs : List Rule) (r : Rule) (e : r = rs[0]!) : errW none rs 0 = errOf none r := by rw [e]; rfl
theorem err_later (rs : List Rule) (j : Nat) (r q : Rule) (e : r = rs[j + 1]!) (eq : q = rs[j]!) : errW none rs (j + 1) = errOf (some q) r := by rw [e, eq]; rfl
theorem errOf_tag (p : Option Rule) (r : Rule) (h : tagB r.tag.data.toList = false) : errOf p r = 6 := by unfold errOf; rw [if_pos h]
theorem errOf_twice (q r : Rule) (h : tagB r.tag.data.toList = true) (h2 : twiceB q r = true) : errOf (some q) r = 7 := by
  rw [errOf, if_neg (by rw [h]; exact fun e => by cases e)]; simp [h2]
theorem errOf_first (r : Rule) (h : tagB r.tag.data.toList = true) : errOf none r = restErr r := by
  rw [errOf, if_neg (by rw [h]; exact fun e => by cases e)]
theorem errOf_later (q r : Rule) (h : tagB r.tag.data.toList = true) (h2 : twiceB q r = false) : errOf (some q) r = restErr r := by
  rw [errOf, if_neg (by rw [h]; exact fun e => by cases e)]; simp [h2]
theorem rest_form (r : Rule) (h : formB r = false) : restErr r = 3 := by rw [restErr, if_pos h]
theorem rest_low (r : Rule) (h : formB r = true) (ha : r.auth < 0) : restErr r = 1 := by
  rw [restErr, if_neg (by rw [h]; exact fun e => by cases e), if_pos (.inl ha)]
theorem rest_high (r : Rule) (h : formB r = true) (ha : 4 < r.auth) : restErr r = 1 := by
  rw [restErr, if_neg (by rw [h]; exact fun e => by cases e), if_pos (.inr ha)]
theorem rest_ok (r : Rule) (h : formB r = true) (ha : 0 ≤ r.auth) (hb : r.auth ≤ 4) : restErr r = 0 := by
  rw [restErr, if_neg (by rw [h]; exact fun e => by cases e), if_neg (by omega)]
end Go.Proofs.YtgpmbkbhkjepgaaDoor
