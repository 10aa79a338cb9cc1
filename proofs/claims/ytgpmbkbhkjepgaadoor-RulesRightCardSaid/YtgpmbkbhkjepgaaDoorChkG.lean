/-
  THE WALKS OF the reference's SameProblems AT TWO LISTS THAT READ ALIKE AND OF rules.Sound; WHAT THE STANDARD RULES FIND AND REFUSE, reckoned. Conditions: the lists lie in memory as told.
-/
import Derived.Test.YtgpmbkbhkjepgaaDoorChkF
import Derived.Test.YtgpmbkbhkjepgaaDoorRuleF
import Derived.Test.YtgpmbkbhkjepgaaDoorRuleH
namespace Go.Proofs.YtgpmbkbhkjepgaaDoor
open Go.RowKit

theorem eqT_eq (a b : ByteArray) : eqT a b = (a.data.toList == b.data.toList) := by rw [eqT, ByteArray.toList_eq, ByteArray.toList_eq]
def findD (t : List UInt8) : List Rule → Option Rule
  | [] => none
  | r :: l => if r.tag.data.toList == t then some r else findD t l
theorem findI_eq (t : ByteArray) : ∀ rs : List Rule, findI t rs = findD t.data.toList rs
  | [] => rfl
  | r :: l => by rw [findI, findD, eqT_eq, findI_eq t l]

/-- The rule of 245. -/
def r245 : Rule := ⟨⟨#[50, 52, 53]⟩, false, true, ⟨#[97, 98, 99, 110, 112]⟩, ⟨#[97, 99]⟩, ⟨#[97]⟩, 0⟩
theorem find245 : findI ⟨#[50, 52, 53]⟩ stdR = some r245 := by rw [findI_eq]; rfl
theorem find999 : findI ⟨#[57, 57, 57]⟩ stdR = none := by rw [findI_eq]; rfl
theorem miss_none : missP stdR [] = prob 1 (-1) ⟨#[50, 52, 53]⟩ 0 := by rfl
theorem miss_one (ind : ByteArray) (v : Value) (n : Int) : missP stdR [⟨⟨#[50, 52, 53]⟩, ind, v, n⟩] = [] := by
  unfold missP missOf hasF
  simp only [eqT_eq]
  rfl
theorem field_a : fieldP r245 0 ⟨#[50, 52, 53]⟩ (subsOf ⟨#[97]⟩ 1) = [] := by kernel_rfl
theorem field_b : fieldP r245 0 ⟨#[50, 52, 53]⟩ (subsOf ⟨#[98, 99, 99, 113]⟩ 4) = prob 5 0 ⟨#[50, 52, 53]⟩ 99 ++ (prob 4 0 ⟨#[50, 52, 53]⟩ 113 ++ prob 6 0 ⟨#[50, 52, 53]⟩ 97) := by kernel_rfl

/-- A problem. -/
structure Prb where
  kind : Int
  index : Int
  tag : ByteArray
  code : Int
instance : Inhabited Prb := ⟨⟨0, 0, ByteArray.empty, 0⟩⟩
def encP (p : Prb) : List Value := prob p.kind p.index p.tag p.code
theorem encP_len (p : Prb) : (encP p).length = 4 := rfl
def PrbsAt (w : World) (b : Nat) (l : List Prb) : Prop := ∀ j, j < l.length → ∀ i v, (encP l[j]!)[i]? = some v → w.cell? ⟨b, j * 4 + i, none⟩ = some v
theorem PrbsAt.at_ {w : World} {b : Nat} {l : List Prb} (h : PrbsAt w b l) (k : Nat) (hk : k < l.length) :
    w.cell? ⟨b, k * 4, none⟩ = some (.int .i64 l[k]!.kind) ∧ w.cell? ⟨b, k * 4 + 1, none⟩ = some (.int .i64 l[k]!.index) ∧ w.cell? ⟨b, k * 4 + 2, none⟩ = some (.string l[k]!.tag) ∧ w.cell? ⟨b, k * 4 + 3, none⟩ = some (.int .u8 l[k]!.code) :=
  ⟨h k hk 0 _ rfl, h k hk 1 _ rfl, h k hk 2 _ rfl, h k hk 3 _ rfl⟩
theorem prbs_of_flat {w : World} {b : Nat} {l : List Prb} (h : ∀ j u, (l.flatMap encP)[j]? = some u → w.cell? ⟨b, j, none⟩ = some u) : PrbsAt w b l := fun j hj i v hi => by
  have h2 : i < 4 := by
    have := (List.getElem?_eq_some_iff.1 hi).1
    rwa [encP_len] at this
  exact h (j * 4 + i) v (by rw [flatk encP 4 encP_len l j i hj h2]; exact hi)
theorem prbs_own {w : World} {B g n cap : Nat} {l : List Prb} (h : w.ownsRow B 44 4 (.slice (some ⟨g, 0, none⟩) n cap) n (l.flatMap encP)) : PrbsAt w g l :=
  prbs_of_flat fun j u hu => by
    have := h.cells (g := g) rfl j u hu
    rwa [Addr.add_lit, Nat.zero_add] at this
theorem prbs_new {w : World} (cs : Array Value) {l : List Prb} (h : cs.toList = l.flatMap encP) : PrbsAt (w.alloc (.cells cs 44)) w.heap.size l :=
  prbs_of_flat fun j u hu => by
    rw [cell_of_row _ _ _ _ _ _ (heap_alloc_new w _)]
    rw [← h] at hu
    simpa using hu
theorem PrbsAt.below {w w' : World} {b B : Nat} {l : List Prb} (h : PrbsAt w b l) (hb : Below B w w') (hB : b < B) : PrbsAt w' b l :=
  fun j hj i v hi => (hb.cell (p := ⟨b, j * 4 + i, none⟩) hB).trans (h j hj i v hi)

theorem str44 : Tryd.prog.underlying 44 = some (.struct (Tryd.prog.fieldsOf 44)) := by kernel_rfl
theorem held44 : Tryd.prog.stoodInHeld 44 = false := by kernel_rfl
theorem neq_prob (p : Prb) (w : World) : (binOp .neq 44 (.agg #[.int .i64 p.kind, .int .i64 p.index, .string p.tag, .int .u8 p.code]) (.agg #[.int .i64 p.kind, .int .i64 p.index, .string p.tag, .int .u8 p.code])).run Tryd.prog w = .ok (.bool false) w := by
  have u3 := Tryd.underlying3
  have u5 := Tryd.underlying5
  have u9 := Tryd.underlying9
  have a3 := Tryd.isAgg3
  have a5 := Tryd.isAgg5
  have a9 := Tryd.isAgg9
  have z3 := Tryd.sizeOf3
  have z5 := Tryd.sizeOf5
  have z9 := Tryd.sizeOf9
  rw [run_neq_struct, show (10000 : Nat) = 9999 + 1 from rfl, run_equalIn_agg w 9999 44 _ _ str44 held44]
  simp only [Program.fieldsOf, Tryd.underlying44]
  go_simp

set_option maxHeartbeats 1000000 in
theorem sameP_any (b c b' c' : Nat) (l : List Prb) (w : World) (hc : PrbsAt w b l) (hc' : PrbsAt w b' l) (hbig : l.length ≤ 65536) :
    Calls Tryd.prog 20 #[.slice (some ⟨b, 0, none⟩) l.length c, .slice (some ⟨b', 0, none⟩) l.length c'] w fun e w' => e = .returned (.bool true) ∧ Below w.heap.size w w' := by
  have HC := Lib.hid hc
  have HC' := Lib.hid hc'
  clear hc hc'
  go_enter Tryd.func20, Tryd.ntmps20
  go_wp2
  go_loopw [5] (fun i wr => ∃ k : Nat, k ≤ l.length ∧ i = .int .i64 k ∧ Quiet w wr) (fun i _ => l.length - (intOf i).toNat)
  case atStart => exact ⟨0, Nat.zero_le _, rfl, Quiet.refl w⟩
  case round =>
    obtain ⟨k, hk, rfl, hq⟩ := hrel
    by_cases hlt : k < l.length
    · obtain ⟨c0, c1, c2, c3⟩ := HC.out.at_ k hlt
      obtain ⟨d0, d1, d2, d3⟩ := HC'.out.at_ k hlt
      generalize l[k]! = r at c0 c1 c2 c3 d0 d1 d2 d3
      have hne := neq_prob r
      obtain ⟨n, rfl⟩ := hq
      go_wp2
      go_quiet (fail)
      go_wp2
      go_roundw
      case rel => exact ⟨k + 1, by omega, by go_num, ⟨_, rfl⟩⟩
      case measure => simp [intOf]; omega
    · obtain rfl : k = l.length := by omega
      obtain ⟨n, rfl⟩ := hq
      go_wp2
      go_ret
      exact ⟨rfl, below_drewN (Below.refl _ _) _⟩

/-- A list of no element. -/
theorem own_zero {w : World} {B : Nat} {e : TypeId} {size n : Nat} {v : Value} (h : w.ownsRow B e size v n []) (hs : 0 < size) : ∃ A c, v = .slice A 0 c := by
  have hn : n = 0 := by
    have := h.1
    rcases Nat.eq_zero_or_pos n with h0 | h0
    · exact h0
    · have := Nat.mul_pos h0 hs
      simp at *
      omega
  subst hn
  rcases h.2 with ⟨rfl, _⟩ | ⟨g, cap, _, rfl, _⟩
  · exact ⟨none, 0, rfl⟩
  · exact ⟨_, cap, rfl⟩

/-- rules.Sound where Check finds nothing. -/
theorem sound_any (w : World) (a : Value) (i1 i2 i3 : Int) (lang : ByteArray) (F : Value)
    (hcheck : ∀ W : World, Below w.heap.size w W → Calls Tryd.prog 21 #[a, .agg #[.int .i64 i1, .int .i64 i2, .int .i64 i3, .string lang, F]] W fun e w' => ∃ v n, e = .returned v ∧ w'.ownsRow W.heap.size 44 4 v n [] ∧ Below W.heap.size W w') :
    Calls Tryd.prog 18 #[a, .agg #[.int .i64 i1, .int .i64 i2, .int .i64 i3, .string lang, F]] w fun e w' => e = .returned (.bool true) ∧ Below w.heap.size w w' := by
  have HCK := Lib.hid hcheck
  clear hcheck
  have hB0 : Below w.heap.size w (w.alloc (.cells #[.int .i64 i1, .int .i64 i2, .int .i64 i3, .string lang, F] 36)) := (Below.refl _ _).alloc (Nat.le_refl _) _
  go_enter Tryd.func18, Tryd.ntmps18
  go_wp2_with (go_at_call 21; refine (HCK.out _ hB0).mono ?_; rintro e w' ⟨v, n, rfl, hown, hb⟩; obtain ⟨A, c, rfl⟩ := own_zero hown (by decide); clear hown)
  go_ret
  exact ⟨rfl, hB0.trans (hb.mono (by simp))⟩
end Go.Proofs.YtgpmbkbhkjepgaaDoor
