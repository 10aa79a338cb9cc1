/-
  THE WALKS OF rules.carries AND rules.has: whether one of some subfields has a code, one of some fields has a tag; what lay in memory lies there still. Conditions: the list lies in memory as told.
-/
import Derived.Test.YtgpmbkbhkjepgaaDoorRuleA
namespace Go.Proofs.YtgpmbkbhkjepgaaDoor
open Go.RowKit

/-- A subfield: its code, its value. -/
structure Sub where
  code : Int
  value : ByteArray
instance : Inhabited Sub := ⟨⟨0, ByteArray.empty⟩⟩
def encS (s : Sub) : List Value := [.int .u8 s.code, .string s.value]
theorem encS_len (s : Sub) : (encS s).length = 2 := rfl
def SubsAt (w : World) (b off : Nat) (l : List Sub) : Prop := ∀ j, j < l.length → ∀ i v, (encS l[j]!)[i]? = some v → w.cell? ⟨b, off + j * 2 + i, none⟩ = some v
theorem SubsAt.below {w w' : World} {b off B : Nat} {l : List Sub} (h : SubsAt w b off l) (hb : Below B w w') (hB : b < B) : SubsAt w' b off l :=
  fun j hj i v hi => (hb.cell (p := ⟨b, off + j * 2 + i, none⟩) hB).trans (h j hj i v hi)
theorem SubsAt.at_ {w : World} {b off : Nat} {l : List Sub} (h : SubsAt w b off l) (k : Nat) (hk : k < l.length) :
    w.cell? ⟨b, off + k * 2, none⟩ = some (.int .u8 l[k]!.code) ∧ w.cell? ⟨b, off + k * 2 + 1, none⟩ = some (.string l[k]!.value) := ⟨h k hk 0 _ rfl, h k hk 1 _ rfl⟩
def hasS (c : Int) (l : List Sub) : Bool := l.any fun s => s.code == c

/-- A field: its tag, its indicators, its subfields' slice, its authority. -/
structure Fld where
  tag : ByteArray
  ind : ByteArray
  subs : Value
  auth : Int
instance : Inhabited Fld := ⟨⟨ByteArray.empty, ByteArray.empty, .slice none 0 0, 0⟩⟩
def encF (f : Fld) : List Value := [.string f.tag, .string f.ind, f.subs, .int .i64 f.auth]
theorem encF_len (f : Fld) : (encF f).length = 4 := rfl
def FldsAt (w : World) (b off : Nat) (l : List Fld) : Prop := ∀ j, j < l.length → ∀ i v, (encF l[j]!)[i]? = some v → w.cell? ⟨b, off + j * 4 + i, none⟩ = some v
theorem FldsAt.below {w w' : World} {b off B : Nat} {l : List Fld} (h : FldsAt w b off l) (hb : Below B w w') (hB : b < B) : FldsAt w' b off l :=
  fun j hj i v hi => (hb.cell (p := ⟨b, off + j * 4 + i, none⟩) hB).trans (h j hj i v hi)
def hasF (t : ByteArray) (l : List Fld) : Bool := l.any fun f => eqT f.tag t

set_option maxHeartbeats 400000 in
theorem predS_any (c : Int) (B : Nat) (w : World) (hB : B < w.heap.size) (hcell : w.cell? ⟨B, 0, none⟩ = some (.int .u8 c)) :
    PredBelow Tryd.prog 47 #[.pointer (some ⟨B, 0, none⟩)] (fun x => .agg (encS x).toArray) (fun x => x.code == c) w := fun W x hb => by
  have hc : W.cell? ⟨B, 0, none⟩ = some (.int .u8 c) := (hb.cell (p := ⟨B, 0, none⟩) hB).trans hcell
  have hBW : B < W.heap.size := Nat.lt_of_lt_of_le hB hb.size
  have hne : B ≠ W.heap.size := by omega
  show Calls Tryd.prog 47 #[.agg #[.int .u8 x.code, .string x.value], .pointer (some ⟨B, 0, none⟩)] W _
  go_enter Tryd.func47, Tryd.ntmps47
  go_wp2
  all_goals (go_ret; exact ⟨ret_bool rfl, hb.alloc hb.size _⟩)

set_option maxHeartbeats 400000 in
theorem predF_any (t : ByteArray) (B : Nat) (w : World) (hB : B < w.heap.size) (hcell : w.cell? ⟨B, 0, none⟩ = some (.string t)) :
    PredBelow Tryd.prog 33 #[.pointer (some ⟨B, 0, none⟩)] (fun x => .agg (encF x).toArray) (fun x => eqT x.tag t) w := fun W x hb => by
  have hc : W.cell? ⟨B, 0, none⟩ = some (.string t) := (hb.cell (p := ⟨B, 0, none⟩) hB).trans hcell
  have hBW : B < W.heap.size := Nat.lt_of_lt_of_le hB hb.size
  have hne : B ≠ W.heap.size := by omega
  show Calls Tryd.prog 33 #[.agg #[.string x.tag, .string x.ind, x.subs, .int .i64 x.auth], .pointer (some ⟨B, 0, none⟩)] W _
  go_enter Tryd.func33, Tryd.ntmps33
  go_wp2
  all_goals (go_ret; exact ⟨ret_bool rfl, hb.alloc hb.size _⟩)

set_option maxHeartbeats 400000 in
theorem carries_any (b off n c : Nat) (l : List Sub) (x : Int) (w : World) (hb : b < w.heap.size) (hc : SubsAt w b off l) (hn : n ≤ l.length) (hbig : n ≤ 65536) :
    Calls Tryd.prog 36 #[.slice (some ⟨b, off, none⟩) n c, .int .u8 x] w fun e w' => e = .returned (.bool (hasS x (l.take n))) ∧ Below w.heap.size w w' := by
  have eg : ∀ args w, (callFunc 47 args).run Tryd.prog w = .ok (.enter 47 args) w := enters_of Tryd.func47 (by kernel_rfl) rfl
  have hB0 : Below w.heap.size w (w.alloc (.cells #[.int .u8 x] 5)) := (Below.refl _ _).alloc (Nat.le_refl _) _
  have hcon := AnyQ.slices_ContainsFunc Tryd.laysHasSub 2 Tryd.isAgg54 Tryd.sizeOf54 encS encS_len (fun s => s.code == x) 47 #[.pointer (some ⟨w.heap.size, 0, none⟩)] eg b off n c l (w.alloc (.cells #[.int .u8 x] 5))
    (predS_any x w.heap.size _ (by simp) (by simp)) hn (by omega) (by simp; omega) (hc.below hB0 hb)
  change Calls Tryd.prog 46 _ _ (fun e w' => e = .returned (.bool (hasS x (l.take n))) ∧ _) at hcon
  generalize hasS x (l.take n) = v at hcon ⊢
  have HC := Lib.hid hcon
  clear hcon hc
  go_enter Tryd.func36, Tryd.ntmps36
  go_wp2_with (go_at_call 46; refine HC.out.mono ?_; rintro e w' ⟨rfl, hb'⟩)
  go_ret
  exact ⟨rfl, hB0.trans (hb'.mono (by simp))⟩

set_option maxHeartbeats 400000 in
theorem has_any_at (b off n c : Nat) (l : List Fld) (t : ByteArray) (w : World) (hb : b < w.heap.size) (hc : FldsAt w b off l) (hn : n ≤ l.length) (hbig : n ≤ 65536) :
    Calls Tryd.prog 28 #[.slice (some ⟨b, off, none⟩) n c, .string t] w fun e w' => e = .returned (.bool (hasF t (l.take n))) ∧ Below w.heap.size w w' := by
  have eg : ∀ args w, (callFunc 33 args).run Tryd.prog w = .ok (.enter 33 args) w := enters_of Tryd.func33 (by kernel_rfl) rfl
  have hB0 : Below w.heap.size w (w.alloc (.cells #[.string t] 9)) := (Below.refl _ _).alloc (Nat.le_refl _) _
  have hcon := AnyQ.slices_ContainsFunc Tryd.laysHasField 4 Tryd.isAgg52 Tryd.sizeOf52 encF encF_len (fun s => eqT s.tag t) 33 #[.pointer (some ⟨w.heap.size, 0, none⟩)] eg b off n c l (w.alloc (.cells #[.string t] 9))
    (predF_any t w.heap.size _ (by simp) (by simp)) hn (by omega) (by simp; omega) (hc.below hB0 hb)
  change Calls Tryd.prog 32 _ _ (fun e w' => e = .returned (.bool (hasF t (l.take n))) ∧ _) at hcon
  generalize hasF t (l.take n) = v at hcon ⊢
  have HC := Lib.hid hcon
  clear hcon hc
  go_enter Tryd.func28, Tryd.ntmps28
  go_wp2_with (go_at_call 32; refine HC.out.mono ?_; rintro e w' ⟨rfl, hb'⟩)
  go_ret
  exact ⟨rfl, hB0.trans (hb'.mono (by simp))⟩

/-- .. of a list that is nil. -/
theorem containsF_nil (x : Value) (w : World) : Calls Tryd.prog 32 #[.slice none 0 0, x] w fun e w' => e = .returned (.bool false) ∧ w = w' := by
  have h : Calls Tryd.prog 44 #[.slice none 0 0, x] w fun e w' => e = .returned (.int .i64 (-1)) ∧ w = w' := by
    go_enter Tryd.func44, Tryd.ntmps44
    go_wp2
    go_loop [8] (fun i => i = .int .i64 0) (fun _ => 0)
    case atStart => rfl
    case round =>
      subst hrel
      go_wp2
      go_ret
      exact ⟨rfl, rfl⟩
  have H := Lib.hid h
  clear h
  go_enter Tryd.func32, Tryd.ntmps32
  go_wp2_with (go_at_call 44; refine H.out.mono ?_; rintro e w' ⟨rfl, rfl⟩)
  go_ret
  exact ⟨rfl, rfl⟩
theorem has_nil (t : ByteArray) (w : World) : Calls Tryd.prog 28 #[.slice none 0 0, .string t] w fun e w' => e = .returned (.bool false) ∧ Below w.heap.size w w' := by
  go_enter Tryd.func28, Tryd.ntmps28
  go_wp2_with (go_at_call 32; refine (containsF_nil _ _).mono ?_; rintro e w' ⟨rfl, rfl⟩)
  go_ret
  exact ⟨rfl, (Below.refl _ _).alloc (Nat.le_refl _) _⟩
end Go.Proofs.YtgpmbkbhkjepgaaDoor
