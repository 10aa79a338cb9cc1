/-
  THE WALK OF alive: the chapter's examples hold; what lay in memory lies there still. Condition: the table in block 0 reads as its initialiser lays it.
-/
import Derived.Test.YtgpmbkbhkjepgaaDoorChkG
namespace Go.Proofs.YtgpmbkbhkjepgaaDoor
open Go.RowKit

/-- The standard rules lie in block g. -/
def StdAt (w : World) (g : Nat) : Prop := g < w.heap.size ∧ RulesAt w g 0 stdR
theorem StdAt.below {w w' : World} {g : Nat} (h : StdAt w g) (hb : Below w.heap.size w w') : StdAt w' g := ⟨Nat.lt_of_lt_of_le h.1 hb.size, h.2.below hb h.1⟩
theorem StdAt.alloc {w : World} {g : Nat} (h : StdAt w g) (o : Obj) : StdAt (w.alloc o) g := h.below ((Below.refl _ _).alloc (Nat.le_refl _) _)

theorem find245_any (w : World) (g cap : Nat) (h : StdAt w g) : Calls Tryd.prog 6 #[.slice (some ⟨g, 0, none⟩) 25 cap, .string ⟨#[50, 52, 53]⟩] w
    fun e w' => e = .returned (.tuple #[.agg #[.string ⟨#[50, 52, 53]⟩, .bool false, .bool true, .string ⟨#[97, 98, 99, 110, 112]⟩, .string ⟨#[97, 99]⟩, .string ⟨#[97]⟩, .int .i64 0], .bool true]) ∧ Below w.heap.size w w' := by
  have := find_any g 0 cap stdR ⟨#[50, 52, 53]⟩ w h.1 h.2 (by decide)
  rw [find245] at this
  exact this
theorem find999_any (w : World) (g cap : Nat) (h : StdAt w g) : Calls Tryd.prog 6 #[.slice (some ⟨g, 0, none⟩) 25 cap, .string ⟨#[57, 57, 57]⟩] w
    fun e w' => e = .returned (.tuple #[.agg #[.string ⟨#[]⟩, .bool false, .bool false, .string ⟨#[]⟩, .string ⟨#[]⟩, .string ⟨#[]⟩, .int .i64 0], .bool false]) ∧ Below w.heap.size w w' := by
  have := find_any g 0 cap stdR ⟨#[57, 57, 57]⟩ w h.1 h.2 (by decide)
  rw [find999] at this
  exact this

/-- A record of one lies in memory, its field in block gf. -/
def RecAt (w : World) (gf : Nat) (codes : ByteArray) : Prop := ∃ gs cap, gf < w.heap.size ∧ gs < w.heap.size ∧
  FldsAt w gf 0 [⟨⟨#[50, 52, 53]⟩, ⟨#[32, 32]⟩, .slice (some ⟨gs, 0, none⟩) (subsOf codes codes.size).length cap, 0⟩] ∧ SubsAt w gs 0 (subsOf codes codes.size) ∧ (subsOf codes codes.size).length ≤ cap
theorem RecAt.below {w w' : World} {gf : Nat} {codes : ByteArray} (h : RecAt w gf codes) (hb : Below w.heap.size w w') : RecAt w' gf codes := by
  obtain ⟨gs, cap, h1, h2, h3, h4, h5⟩ := h
  exact ⟨gs, cap, Nat.lt_of_lt_of_le h1 hb.size, Nat.lt_of_lt_of_le h2 hb.size, h3.below hb h1, h4.below hb h2, h5⟩
theorem subsOf_len (s : ByteArray) (k : Nat) : (subsOf s k).length = k := by simp [subsOf]
theorem rec_any (codes : ByteArray) (w : World) (hs : codes.size ≤ 60) (h0 : 0 < codes.size) :
    Calls Tryd.prog 19 #[.string ⟨#[50, 52, 53]⟩, .string codes] w fun e w' => ∃ gf, e = .returned (.agg #[.int .i64 1, .int .i64 3, .int .i64 1, .string ⟨#[101, 110, 103]⟩, .slice (some ⟨gf, 0, none⟩) 1 1]) ∧ RecAt w' gf codes ∧ Below w.heap.size w w' :=
  (one_any _ codes w hs h0).mono fun _ _ ⟨gf, gs, cap, he, h1, h2, h3, h4, h5, hb⟩ => ⟨gf, he, ⟨gs, cap, h1, h2, by rw [subsOf_len]; exact h3, h4, by rw [subsOf_len]; exact h5⟩, hb⟩
theorem check_rec (codes : ByteArray) (w : World) (g cap gf : Nat) (hs : codes.size ≤ 60) (hS : StdAt w g) (hR : RecAt w gf codes) :
    Calls Tryd.prog 21 #[.slice (some ⟨g, 0, none⟩) 25 cap, .agg #[.int .i64 1, .int .i64 3, .int .i64 1, .string ⟨#[101, 110, 103]⟩, .slice (some ⟨gf, 0, none⟩) 1 1]] w
      fun e w' => ∃ v n, e = .returned v ∧ w'.ownsRow w.heap.size 44 4 v n (fieldP r245 0 ⟨#[50, 52, 53]⟩ (subsOf codes codes.size)) ∧ Below w.heap.size w w' := by
  obtain ⟨gs, cs, h1, h2, h3, h4, h5⟩ := hR
  have := check_one g cap gf 1 gs cs stdR r245 ⟨#[50, 52, 53]⟩ ⟨#[32, 32]⟩ (subsOf codes codes.size) 1 3 1 ⟨#[101, 110, 103]⟩ w hS.1 h1 h2 hS.2 h3 h4 (by decide) (by rw [subsOf_len]; exact hs) h5 (by decide) find245 rfl
  rw [miss_one, List.nil_append] at this
  exact this

/-- A list of problems that is the call's own. -/
theorem prbs_form {w : World} {B n : Nat} {v : Value} {l : List Prb} (h : w.ownsRow B 44 4 v n (l.flatMap encP)) (hl : 0 < l.length) : ∃ g c, v = .slice (some ⟨g, 0, none⟩) l.length c ∧ g < w.heap.size ∧ PrbsAt w g l := by
  have hlen : ∀ l : List Prb, (l.flatMap encP).length = l.length * 4 := by
    intro l
    induction l with
    | nil => rfl
    | cons p l ih => rw [List.flatMap_cons, List.length_append, ih, encP_len, List.length_cons]; omega
  have hn : n = l.length := by
    have := h.1
    rw [hlen] at this
    omega
  subst hn
  obtain ⟨g, c, rfl⟩ := Joins.ownsRow_form h hl
  exact ⟨g, c, rfl, (h.lt g rfl).2, prbs_own h⟩
def nilL : List Prb := [⟨1, -1, ⟨#[50, 52, 53]⟩, 0⟩]
def wantL : List Prb := [⟨5, 0, ⟨#[50, 52, 53]⟩, 99⟩, ⟨4, 0, ⟨#[50, 52, 53]⟩, 113⟩, ⟨6, 0, ⟨#[50, 52, 53]⟩, 97⟩]
theorem checkN (w : World) (g cap : Nat) (hS : StdAt w g) :
    Calls Tryd.prog 21 #[.slice (some ⟨g, 0, none⟩) 25 cap, .agg #[.int .i64 0, .int .i64 0, .int .i64 0, .string ⟨#[]⟩, .slice none 0 0]] w
      fun e w' => ∃ g' c', e = .returned (.slice (some ⟨g', 0, none⟩) 1 c') ∧ g' < w'.heap.size ∧ PrbsAt w' g' nilL ∧ Below w.heap.size w w' := by
  have := check_nil g cap stdR 0 0 0 ⟨#[]⟩ w hS.1 hS.2 (by decide)
  rw [miss_none] at this
  refine this.mono ?_
  rintro e w' ⟨v, n, rfl, hown, hb⟩
  obtain ⟨g', c', rfl, hlt, hp⟩ := prbs_form (l := nilL) hown (by decide)
  exact ⟨g', c', rfl, hlt, hp, hb⟩
theorem checkB (w : World) (g cap gf : Nat) (hS : StdAt w g) (hR : RecAt w gf ⟨#[98, 99, 99, 113]⟩) :
    Calls Tryd.prog 21 #[.slice (some ⟨g, 0, none⟩) 25 cap, .agg #[.int .i64 1, .int .i64 3, .int .i64 1, .string ⟨#[101, 110, 103]⟩, .slice (some ⟨gf, 0, none⟩) 1 1]] w
      fun e w' => ∃ g' c', e = .returned (.slice (some ⟨g', 0, none⟩) 3 c') ∧ g' < w'.heap.size ∧ PrbsAt w' g' wantL ∧ Below w.heap.size w w' := by
  refine (check_rec _ w g cap gf (by decide) hS hR).mono ?_
  rintro e w' ⟨v, n, rfl, hown, hb⟩
  have hown' : w'.ownsRow w.heap.size 44 4 v n (wantL.flatMap encP) := by
    have e1 := field_b
    rw [show (⟨#[98, 99, 99, 113]⟩ : ByteArray).size = 4 from rfl, e1] at hown
    exact hown
  obtain ⟨g', c', rfl, hlt, hp⟩ := prbs_form hown' (by decide)
  exact ⟨g', c', rfl, hlt, hp, hb⟩
theorem soundA (w : World) (g cap gf : Nat) (hS : StdAt w g) (hR : RecAt w gf ⟨#[97]⟩) :
    Calls Tryd.prog 18 #[.slice (some ⟨g, 0, none⟩) 25 cap, .agg #[.int .i64 1, .int .i64 3, .int .i64 1, .string ⟨#[101, 110, 103]⟩, .slice (some ⟨gf, 0, none⟩) 1 1]] w fun e w' => e = .returned (.bool true) ∧ Below w.heap.size w w' :=
  sound_any w _ 1 3 1 _ _ fun W hW => by
    have := check_rec ⟨#[97]⟩ W g cap gf (by decide) (hS.below hW) (hR.below hW)
    rw [show (⟨#[97]⟩ : ByteArray).size = 1 from rfl, field_a] at this
    exact this
theorem same1 (w : World) (b c b' c' : Nat) (hc : PrbsAt w b nilL) (hc' : PrbsAt w b' nilL) :
    Calls Tryd.prog 20 #[.slice (some ⟨b, 0, none⟩) 1 c, .slice (some ⟨b', 0, none⟩) 1 c'] w fun e w' => e = .returned (.bool true) ∧ Below w.heap.size w w' := sameP_any b c b' c' nilL w hc hc' (by decide)
theorem same1_new (w : World) (b c : Nat) (hl : b < w.heap.size) (hc : PrbsAt w b nilL) :
    Calls Tryd.prog 20 #[.slice (some ⟨b, 0, none⟩) 1 c, .slice (some ⟨w.heap.size, 0, none⟩) 1 1] (w.alloc (.cells #[.int .i64 1, .int .i64 (-1), .string ⟨#[50, 52, 53]⟩, .int .u8 0] 44)) fun e w' => e = .returned (.bool true) ∧
      Below (w.alloc (.cells #[.int .i64 1, .int .i64 (-1), .string ⟨#[50, 52, 53]⟩, .int .u8 0] 44)).heap.size (w.alloc (.cells #[.int .i64 1, .int .i64 (-1), .string ⟨#[50, 52, 53]⟩, .int .u8 0] 44)) w' :=
  same1 _ b c w.heap.size 1 (hc.below ((Below.refl _ _).alloc (Nat.le_refl _) _) hl) (prbs_new (l := nilL) #[.int .i64 1, .int .i64 (-1), .string ⟨#[50, 52, 53]⟩, .int .u8 0] rfl)
theorem same3 (w : World) (b c b' c' : Nat) (hc : PrbsAt w b wantL) (hc' : PrbsAt w b' wantL) :
    Calls Tryd.prog 20 #[.slice (some ⟨b, 0, none⟩) 3 c, .slice (some ⟨b', 0, none⟩) 3 c'] w fun e w' => e = .returned (.bool true) ∧ Below w.heap.size w w' := sameP_any b c b' c' wantL w hc hc' (by decide)
theorem want_kept {w3 w4 : World} {o : Obj} {cs : Array Value} {l : List Prb} (hb : Below ((w3.alloc o).alloc (.cells cs 44)).heap.size ((w3.alloc o).alloc (.cells cs 44)) w4) (h : cs.toList = l.flatMap encP) : PrbsAt w4 (w3.heap.size + 1) l := by
  have := (prbs_new (w := w3.alloc o) cs h).below hb (by simp)
  rwa [World.size_alloc] at this

set_option maxRecDepth 100000 in
set_option maxHeartbeats 4000000 in
theorem alive_any (w : World) (hc : RulesAt w 0 0 stdR) : Calls Tryd.prog 9 #[] w fun e w' => e = .returned (.bool true) ∧ Below w.heap.size w w' := by
  have HSTD := Lib.hid (std_any w hc)
  clear hc
  go_enter Tryd.func9, Tryd.ntmps9
  go_wp2_with (first
    | (go_at_call 5; refine HSTD.out.mono ?_; rintro e w1 ⟨g, cap, rfl, h1, h2, h3, hb1⟩; have S1 : StdAt w1 g := ⟨h2, h3⟩; clear h1 h2 h3)
    | (go_at_call 6; (with_reducible refine (find245_any _ _ _ S1).mono ?_); rintro e w2 ⟨rfl, hb2⟩; have S2 := (S1.below hb2).alloc (.cells #[.string ⟨#[50, 52, 53]⟩, .bool false, .bool true, .string ⟨#[97, 98, 99, 110, 112]⟩, .string ⟨#[97, 99]⟩, .string ⟨#[97]⟩, .int .i64 0] 25))
    | (go_at_call 6; (with_reducible refine (find999_any _ _ _ S2).mono ?_); rintro e w3 ⟨rfl, hb3⟩; have S3 := (S2.below hb3).alloc (.cells #[.string ⟨#[]⟩, .bool false, .bool false, .string ⟨#[]⟩, .string ⟨#[]⟩, .string ⟨#[]⟩, .int .i64 0] 25); have t1 := (hb3.cell (p := ⟨w2.heap.size, 1, none⟩) (by simp)).trans (show _ = some (Value.bool false) by go_simp); have t2 := (hb3.cell (p := ⟨w2.heap.size, 2, none⟩) (by simp)).trans (show _ = some (Value.bool true) by go_simp); have t3 := (hb3.cell (p := ⟨w2.heap.size, 3, none⟩) (by simp)).trans (show _ = some (Value.string ⟨#[97, 98, 99, 110, 112]⟩) by go_simp); have hz : w2.heap.size < w3.heap.size := (by have := hb3.size; rw [World.size_alloc] at this; exact this); have B3 := (hb1.trans (hb2.mono hb1.size)).alloc (Nat.le_trans hb1.size hb2.size) (.cells #[.string ⟨#[50, 52, 53]⟩, .bool false, .bool true, .string ⟨#[97, 98, 99, 110, 112]⟩, .string ⟨#[97, 99]⟩, .string ⟨#[97]⟩, .int .i64 0] 25); have B4 := B3.trans (hb3.mono B3.size); have B5 := B4.alloc B4.size (.cells #[.string ⟨#[]⟩, .bool false, .bool false, .string ⟨#[]⟩, .string ⟨#[]⟩, .string ⟨#[]⟩, .int .i64 0] 25))
    | (go_at_call 19; (with_reducible refine (rec_any ⟨#[97]⟩ _ (by decide) (by decide)).mono ?_); rintro e w4 ⟨ga, rfl, R4, hb4⟩; have S4 := (S3.alloc _).below hb4; have P4 := want_kept (l := wantL) hb4 rfl; have l4 : w3.heap.size + 1 < w4.heap.size := (by have := hb4.size; simp at this; exact this); have C4 := (B5.alloc B5.size _).trans (hb4.mono (B5.alloc B5.size _).size); clear t1 t2 t3)
    | (go_at_call 18; refine (soundA _ _ _ _ S4 R4).mono ?_; rintro e w5 ⟨rfl, hb5⟩; have S5 := S4.below hb5; have P5 := P4.below hb5 l4; have l5 := Nat.lt_of_lt_of_le l4 hb5.size; have C5 := C4.trans (hb5.mono C4.size))
    | (go_at_call 21; (with_reducible refine (checkN _ _ _ S5).mono ?_); rintro e w6 ⟨gn, cn, rfl, ln, Pn, hb6⟩; have S6 := S5.below hb6; have P6 := P5.below hb6 l5; have l6 := Nat.lt_of_lt_of_le l5 hb6.size; have C6 := C5.trans (hb6.mono C5.size))
    | (go_at_call 20; (with_reducible refine (same1_new _ _ _ ln Pn).mono ?_); rintro e w7 ⟨rfl, hb7⟩; have S7 := (S6.alloc _).below hb7; have P7 := (P6.below ((Below.refl _ _).alloc (Nat.le_refl _) _) l6).below hb7 (Nat.lt_of_lt_of_le l6 (by simp)); have l7 : w3.heap.size + 1 < w7.heap.size := (by have := hb7.size; simp at this; omega); have C7 := (C6.alloc C6.size _).trans (hb7.mono (C6.alloc C6.size _).size))
    | (go_at_call 19; (with_reducible refine (rec_any ⟨#[98, 99, 99, 113]⟩ _ (by decide) (by decide)).mono ?_); rintro e w8 ⟨gb, rfl, R8, hb8⟩; have S8 := S7.below hb8; have P8 := P7.below hb8 l7; have l8 := Nat.lt_of_lt_of_le l7 hb8.size; have C8 := C7.trans (hb8.mono C7.size))
    | (go_at_call 21; (with_reducible refine (checkB _ _ _ _ S8 R8).mono ?_); rintro e w9 ⟨gw, cw, rfl, lw, Pw, hb9⟩; have P9 := P8.below hb9 l8; have C9 := C8.trans (hb9.mono C8.size))
    | (go_at_call 20; (with_reducible refine (same3 _ _ _ _ _ Pw P9).mono ?_); rintro e w10 ⟨rfl, hb10⟩; have C10 := C9.trans (hb10.mono C9.size)))
  go_ret
  exact ⟨rfl, C10⟩
end Go.Proofs.YtgpmbkbhkjepgaaDoor
