/-
  THE WALKS OF rules.tag, rules.within AND OF THE REFERENCE's Tag: each returns what the plain function says; what lay in memory lies there still. Conditions: the texts are no longer than a text can be, the cutset is a list of codes.
-/
import Derived.Test.YtgpmbkbhkjepgaaDoorTextC
import Derived.Test.YtgpmbkbhkjepgaaDoorShelf
namespace Go.Proofs.YtgpmbkbhkjepgaaDoor
open Go.RowKit

def digB (b : UInt8) : Bool := decide (48 ≤ b.toNat) && decide (b.toNat ≤ 57)
/-- A tag: three digits from 010 on. -/
def tagB (l : List UInt8) : Bool := decide (l.length = 3) && (l.all digB && !Op.bytesLess l [48, 49, 48])

theorem head_dropWhile (p : UInt8 → Bool) : ∀ l : List UInt8, (∀ b ∈ l.dropWhile p, p b = true) → l.dropWhile p = []
  | [], _ => rfl
  | a :: r, h => by
    cases ha : p a with
    | true =>
      rw [List.dropWhile_cons_of_pos ha] at h ⊢
      exact head_dropWhile p r h
    | false =>
      rw [List.dropWhile_cons_of_neg (by simp [ha])] at h
      have := h a (by simp)
      rw [ha] at this
      cases this
theorem dropWhile_nil (p : UInt8 → Bool) (l : List UInt8) : l.dropWhile p = [] ↔ ∀ b ∈ l, p b = true := by
  induction l with
  | nil => simp
  | cons a r ih =>
    cases ha : p a with
    | true => rw [List.dropWhile_cons_of_pos ha]; simp [ih, ha]
    | false => rw [List.dropWhile_cons_of_neg (by simp [ha])]; simp [ha]
/-- Trim leaves nothing just where every byte lies in the cutset. -/
theorem trim_nil (l cs : List UInt8) : Lib.trimS l cs = [] ↔ ∀ b ∈ l, cs.contains b = true := by
  unfold Lib.trimS Lib.trimLeftS Lib.trimRightS
  rw [dropWhile_nil]
  constructor
  · intro h
    have h1 : l.reverse.dropWhile (fun x => cs.contains x) = [] := head_dropWhile _ _ fun b hb => h b (by simpa using hb)
    rw [dropWhile_nil] at h1
    exact fun b hb => h1 b (by simpa using hb)
  · intro h b hb
    have : b ∈ l.reverse := (List.dropWhile_sublist _).subset (by simpa using hb)
    exact h b (by simpa using this)

theorem contains_has (cs : List UInt8) (b : UInt8) : cs.contains b = hasB cs b.toNat := by
  rw [Bool.eq_iff_iff]
  simp only [List.contains_iff_mem, hasB, List.any_eq_true, decide_eq_true_eq]
  constructor
  · exact fun h => ⟨b, h, rfl⟩
  · rintro ⟨x, hx, e⟩
    have : x = b := UInt8.toNat_inj.1 (by omega)
    rw [← this]; exact hx
theorem trim_in (l cs : List UInt8) : Lib.trimS l cs = [] ↔ inB cs l = true := by
  rw [trim_nil]
  unfold inB
  rw [List.all_eq_true]
  simp only [contains_has]
theorem dig_has (b : UInt8) : hasB [48, 49, 50, 51, 52, 53, 54, 55, 56, 57] b.toNat = digB b := by
  rw [Bool.eq_iff_iff]
  simp only [hasB, digB, List.any_cons, List.any_nil, Bool.or_false, Bool.or_eq_true, Bool.and_eq_true, decide_eq_true_eq]
  have e : ∀ n : Nat, n < 256 → (n.toUInt8.toNat = n) := fun n hn => by simp; omega
  have hb := b.toNat_lt
  simp only [show (48 : UInt8).toNat = 48 from rfl, show (49 : UInt8).toNat = 49 from rfl, show (50 : UInt8).toNat = 50 from rfl, show (51 : UInt8).toNat = 51 from rfl, show (52 : UInt8).toNat = 52 from rfl, show (53 : UInt8).toNat = 53 from rfl, show (54 : UInt8).toNat = 54 from rfl, show (55 : UInt8).toNat = 55 from rfl, show (56 : UInt8).toNat = 56 from rfl, show (57 : UInt8).toNat = 57 from rfl]
  omega
theorem trim_dig (l : List UInt8) : Lib.trimS l [48, 49, 50, 51, 52, 53, 54, 55, 56, 57] = [] ↔ l.all digB = true := by
  rw [trim_in]
  unfold inB
  simp only [dig_has]

/-- strings.Trim at a cutset of ASCII bytes. -/
theorem trim_any (s cs : ByteArray) (w : World) (hs : s.size ≤ 9223372036854775807) (hcs : cs.size < 4294967281) (hascii : ∀ (j : Nat) b, cs.data.toList[j]? = some b → b.toNat < 128) :
    Calls Tryd.prog 30 #[.string s, .string cs] w fun e w' => ∃ r : ByteArray, e = .returned (.string r) ∧ r.toList = Lib.trimS s.data.toList cs.data.toList ∧ Below w.heap.size w w' :=
  (Any.strings_Trim_laid Tryd.lays160 (by kernel_rfl) s cs w hs hcs hascii).mono fun _ _ ⟨he, hb⟩ => ⟨_, he, by rw [ByteArray.toList_eq], hb⟩
/-- .. nothing is left. -/
theorem trim_none (s cs : ByteArray) (w : World) (hs : s.size ≤ 9223372036854775807) (hcs : cs.size < 4294967281) (hascii : ∀ (j : Nat) b, cs.data.toList[j]? = some b → b.toNat < 128) (h : Lib.trimS s.data.toList cs.data.toList = []) :
    Calls Tryd.prog 30 #[.string s, .string cs] w fun e w' => ∃ r : ByteArray, e = .returned (.string r) ∧ r.toList = [] ∧ Below w.heap.size w w' :=
  (trim_any s cs w hs hcs hascii).mono fun _ _ ⟨r, he, hr, hb⟩ => ⟨r, he, hr.trans h, hb⟩
/-- .. something is left. -/
theorem trim_some (s cs : ByteArray) (w : World) (hs : s.size ≤ 9223372036854775807) (hcs : cs.size < 4294967281) (hascii : ∀ (j : Nat) b, cs.data.toList[j]? = some b → b.toNat < 128) (h : ¬ Lib.trimS s.data.toList cs.data.toList = []) :
    Calls Tryd.prog 30 #[.string s, .string cs] w fun e w' => ∃ r : ByteArray, e = .returned (.string r) ∧ ¬ r.toList = [] ∧ Below w.heap.size w w' :=
  (trim_any s cs w hs hcs hascii).mono fun _ _ ⟨r, he, hr, hb⟩ => ⟨r, he, by rw [hr]; exact h, hb⟩

set_option maxHeartbeats 1000000 in
theorem tag_any (s : ByteArray) (w : World) (hs : s.size ≤ 9223372036854775807) :
    Calls Tryd.prog 22 #[.string s] w fun e w' => e = .returned (.bool (tagB s.data.toList)) ∧ Below w.heap.size w w' := by
  have hlen : s.data.toList.length = s.size := by simp
  by_cases h3 : s.size = 3
  · by_cases hn : Lib.trimS s.data.toList [48, 49, 50, 51, 52, 53, 54, 55, 56, 57] = []
    · have hcon := trim_none s ⟨#[48, 49, 50, 51, 52, 53, 54, 55, 56, 57]⟩ w hs (by decide) (ascii_of_all (by decide)) hn
      have hcon := Lib.hid hcon
      have hv : Hid (tagB s.data.toList = !Op.bytesLess s.toList [48, 49, 48]) := by
        show tagB s.data.toList = _
        rw [tagB, hlen, h3, (trim_dig _).1 hn, ByteArray.toList_eq]; rfl
      have h3b : ((s.size : Int) == 3) = true := by simp [h3]
      clear h3 hn hlen
      go_enter Tryd.func22, Tryd.ntmps22
      go_wp2_with (go_at_call 30; refine hcon.out.mono ?_; rintro e w' ⟨r, rfl, hr, hb⟩)
      go_ret
      exact ⟨ret_bool hv.out.symm, hb⟩
    · have hcon := trim_some s ⟨#[48, 49, 50, 51, 52, 53, 54, 55, 56, 57]⟩ w hs (by decide) (ascii_of_all (by decide)) hn
      have hcon := Lib.hid hcon
      have hv : Hid (tagB s.data.toList = false) := by
        show tagB s.data.toList = _
        have : s.data.toList.all digB = false := by
          cases h : s.data.toList.all digB with
          | true => exact absurd ((trim_dig _).2 h) hn
          | false => rfl
        rw [tagB, this]; simp
      have h3b : ((s.size : Int) == 3) = true := by simp [h3]
      clear h3 hn hlen
      go_enter Tryd.func22, Tryd.ntmps22
      go_wp2_with (go_at_call 30; refine hcon.out.mono ?_; rintro e w' ⟨r, rfl, hr, hb⟩)
      go_ret
      exact ⟨ret_bool hv.out.symm, hb⟩
  · have hv : Hid (tagB s.data.toList = false) := by
      show tagB s.data.toList = _
      rw [tagB, hlen, decide_eq_false h3]; rfl
    have h3b : ((s.size : Int) == 3) = false := by simp; omega
    clear h3 hlen
    go_enter Tryd.func22, Tryd.ntmps22
    go_wp2
    go_ret
    exact ⟨ret_bool hv.out.symm, Below.refl _ w⟩

theorem codes_ascii (l : List UInt8) (h : codesB l = true) : ∀ (j : Nat) b, l[j]? = some b → b.toNat < 128 := fun j b hj => by
  unfold codesB at h
  rw [Bool.and_eq_true, List.all_eq_true] at h
  have := okc_true b (h.1 b (List.mem_of_getElem? hj))
  omega

set_option maxHeartbeats 1000000 in
theorem within_any (s cs : ByteArray) (w : World) (hs : s.size ≤ 9223372036854775807) (hcs : cs.size < 4294967281) (hok : codesB cs.data.toList = true) :
    Calls Tryd.prog 24 #[.string s, .string cs] w fun e w' => e = .returned (.bool (codesB s.data.toList && inB cs.data.toList s.data.toList)) ∧ Below w.heap.size w w' := by
  have hlist := Lib.hid (list_any s w hs)
  cases hl : codesB s.data.toList with
  | false =>
    rw [hl] at hlist
    clear hl hok
    go_enter Tryd.func24, Tryd.ntmps24
    go_wp2_with (go_at_call 23; refine hlist.out.mono ?_; rintro e w' ⟨rfl, rfl⟩)
    go_ret
    exact ⟨rfl, Below.refl _ w⟩
  | true =>
    rw [hl] at hlist
    have hasc := codes_ascii _ hok
    cases hi : inB cs.data.toList s.data.toList with
    | true =>
      have hcon := Lib.hid (trim_none s cs w hs hcs hasc ((trim_in _ _).2 hi))
      clear hl hok hi hasc
      go_enter Tryd.func24, Tryd.ntmps24
      go_wp2_with (first | (go_at_call 23; refine hlist.out.mono ?_; rintro e w' ⟨rfl, rfl⟩) | (go_at_call 30; refine hcon.out.mono ?_; rintro e w' ⟨r, rfl, hr, hb⟩))
      go_ret
      exact ⟨rfl, hb⟩
    | false =>
      have hcon := Lib.hid (trim_some s cs w hs hcs hasc (fun h => by rw [(trim_in _ _).1 h] at hi; cases hi))
      clear hl hok hi hasc
      go_enter Tryd.func24, Tryd.ntmps24
      go_wp2_with (first | (go_at_call 23; refine hlist.out.mono ?_; rintro e w' ⟨rfl, rfl⟩) | (go_at_call 30; refine hcon.out.mono ?_; rintro e w' ⟨r, rfl, hr, hb⟩))
      go_ret
      exact ⟨ret_bool (by simp [hr]), hb⟩

theorem dig_next (s : ByteArray) (k : Nat) (h : k < s.size) (hm : (s.data.toList.take k).all digB = true) (hn : digB s[k] = true) : (s.data.toList.take (k + 1)).all digB = true := by
  rw [take_snoc s k h, List.all_append, hm]
  simp [hn]
theorem dig_stop (s : ByteArray) (k : Nat) (h : k < s.size) (hn : digB s[k] = false) : tagB s.data.toList = false := by
  have : s.data.toList.all digB = false := by
    refine all_take _ _ (k + 1) ?_
    rw [take_snoc s k h, List.all_append]
    simp [hn]
  rw [tagB, this]; simp
theorem dig_true (b : UInt8) (h : digB b = true) : 48 ≤ (b.toNat : Int) ∧ (b.toNat : Int) ≤ 57 := by
  unfold digB at h
  simp at h
  omega
theorem dig_false (b : UInt8) (h : digB b = false) : (b.toNat : Int) < 48 ∨ 57 < (b.toNat : Int) := by
  unfold digB at h
  simp at h
  omega

set_option maxHeartbeats 1000000 in
theorem reftag_any (s : ByteArray) (w : World) :
    Calls Tryd.prog 25 #[.string s] w fun e w' => e = .returned (.bool (tagB s.data.toList)) ∧ w = w' := by
  have hlen : s.data.toList.length = s.size := by simp
  by_cases h3 : s.size = 3
  · have hz : Hid (s.size = 3) := h3
    have h3b : ((s.size : Int) != 3) = false := by simp [h3]
    have h3c : (s.size != 3) = false := by simp [h3]
    clear h3 hlen
    go_enter Tryd.func25, Tryd.ntmps25
    go_wp2
    go_loop [3] (fun i => ∃ k : Nat, k ≤ 3 ∧ i = .int .i64 k ∧ Hid ((s.data.toList.take k).all digB = true)) (fun i => 3 - (intOf i).toNat)
    case atStart => exact ⟨0, Nat.zero_le _, rfl, rfl⟩
    case round =>
      obtain ⟨k, hk, rfl, H⟩ := hrel
      by_cases hlt : k < 3
      · have hlt2 : k < s.size := by have := hz.out; omega
        cases hd : digB s[k] with
        | false =>
          have hh := Lib.hid (dig_stop s k hlt2 hd)
          rcases dig_false _ hd with h1 | h1
          all_goals
            clear hd
            go_wp2
            go_ret
            exact ⟨ret_bool hh.out.symm, rfl⟩
        | true =>
          have hh := Lib.hid (dig_next s k hlt2 H.out hd)
          obtain ⟨h1, h2⟩ := dig_true _ hd
          clear hd
          go_wp2
          go_round
          case rel => exact ⟨k + 1, by omega, by go_num, hh⟩
          case measure => simp [intOf]; omega
      · obtain rfl : k = 3 := by omega
        go_wp2
        go_ret
        refine ⟨ret_bool ?_, rfl⟩
        have h := H.out
        have e3 : s.data.toList.take 3 = s.data.toList := List.take_of_length_le (by have := hz.out; simp; omega)
        rw [e3] at h
        have hl : s.data.toList.length = 3 := by have := hz.out; simp; omega
        rw [tagB, h, hl, ByteArray.toList_eq]; rfl
  · have hv : Hid (tagB s.data.toList = false) := by
      show tagB s.data.toList = _
      rw [tagB, hlen, decide_eq_false h3]; rfl
    have h3b : ((s.size : Int) != 3) = true := by simp; omega
    clear h3 hlen
    go_enter Tryd.func25, Tryd.ntmps25
    go_wp2
    go_ret
    exact ⟨ret_bool hv.out.symm, rfl⟩
end Go.Proofs.YtgpmbkbhkjepgaaDoor
