/-
  THE WALKS OF Find: rules.Find and the reference's return the first rule with the tag; what lay in memory lies there still. Conditions: the list lies in memory as told.
-/
import Derived.Test.YtgpmbkbhkjepgaaDoorTextD
import Derived.Lib.SliceRun
namespace Go.Proofs.YtgpmbkbhkjepgaaDoor
open Go.RowKit

/-- A rule of the program, plainly. -/
structure Rule where
  tag : ByteArray
  rep : Bool
  must : Bool
  codes : ByteArray
  once : ByteArray
  needs : ByteArray
  auth : Int
instance : Inhabited Rule := ⟨⟨ByteArray.empty, false, false, ByteArray.empty, ByteArray.empty, ByteArray.empty, 0⟩⟩

/-- Its seven cells. -/
def encR (r : Rule) : List Value := [.string r.tag, .bool r.rep, .bool r.must, .string r.codes, .string r.once, .string r.needs, .int .i64 r.auth]
theorem encR_len (r : Rule) : (encR r).length = 7 := rfl

/-- The rules lie in block b from off on. -/
def RulesAt (w : World) (b off : Nat) (rs : List Rule) : Prop := ∀ j, j < rs.length → ∀ i v, (encR rs[j]!)[i]? = some v → w.cell? ⟨b, off + j * 7 + i, none⟩ = some v

theorem RulesAt.below {w w' : World} {b off B : Nat} {rs : List Rule} (h : RulesAt w b off rs) (hb : Below B w w') (hB : b < B) : RulesAt w' b off rs :=
  fun j hj i v hi => (hb.cell (p := ⟨b, off + j * 7 + i, none⟩) hB).trans (h j hj i v hi)
theorem RulesAt.at_ {w : World} {b off : Nat} {rs : List Rule} (h : RulesAt w b off rs) (k : Nat) (hk : k < rs.length) :
    w.cell? ⟨b, off + k * 7, none⟩ = some (.string rs[k]!.tag) ∧ w.cell? ⟨b, off + k * 7 + 1, none⟩ = some (.bool rs[k]!.rep) ∧ w.cell? ⟨b, off + k * 7 + 2, none⟩ = some (.bool rs[k]!.must) ∧
    w.cell? ⟨b, off + k * 7 + 3, none⟩ = some (.string rs[k]!.codes) ∧ w.cell? ⟨b, off + k * 7 + 4, none⟩ = some (.string rs[k]!.once) ∧ w.cell? ⟨b, off + k * 7 + 5, none⟩ = some (.string rs[k]!.needs) ∧
    w.cell? ⟨b, off + k * 7 + 6, none⟩ = some (.int .i64 rs[k]!.auth) :=
  ⟨h k hk 0 _ rfl, h k hk 1 _ rfl, h k hk 2 _ rfl, h k hk 3 _ rfl, h k hk 4 _ rfl, h k hk 5 _ rfl, h k hk 6 _ rfl⟩

/-- Two texts are equal. -/
def eqT (a b : ByteArray) : Bool := a.toList == b.toList

set_option maxHeartbeats 400000 in
/-- The closure in Find: has the rule the tag that lies in block B? -/
theorem pred_any (t : ByteArray) (B : Nat) (w : World) (hB : B < w.heap.size) (hcell : w.cell? ⟨B, 0, none⟩ = some (.string t)) :
    PredBelow Tryd.prog 16 #[.pointer (some ⟨B, 0, none⟩)] (fun x => .agg (encR x).toArray) (fun x => eqT x.tag t) w := fun W x hb => by
  have hc : W.cell? ⟨B, 0, none⟩ = some (.string t) := (hb.cell (p := ⟨B, 0, none⟩) hB).trans hcell
  have hBW : B < W.heap.size := Nat.lt_of_lt_of_le hB hb.size
  have hne : B ≠ W.heap.size := by omega
  show Calls Tryd.prog 16 #[.agg #[.string x.tag, .bool x.rep, .bool x.must, .string x.codes, .string x.once, .string x.needs, .int .i64 x.auth], .pointer (some ⟨B, 0, none⟩)] W _
  go_enter Tryd.func16, Tryd.ntmps16
  go_wp2
  all_goals (go_ret; exact ⟨ret_bool rfl, hb.alloc hb.size _⟩)

/-- The first rule with a tag. -/
def findI (t : ByteArray) : List Rule → Option Rule
  | [] => none
  | r :: l => if eqT r.tag t then some r else findI t l
theorem findI_cases (t : ByteArray) : ∀ rs : List Rule, (findI t rs = none ∧ ∀ j, j < rs.length → eqT rs[j]!.tag t = false) ∨
    ∃ k, k < rs.length ∧ findI t rs = some rs[k]! ∧ eqT rs[k]!.tag t = true ∧ ∀ j, j < k → eqT rs[j]!.tag t = false
  | [] => .inl ⟨rfl, fun j hj => absurd hj (Nat.not_lt_zero _)⟩
  | r :: l => by
    cases h : eqT r.tag t with
    | true => exact .inr ⟨0, Nat.succ_pos _, by simp [findI, h], by simpa using h, fun j hj => absurd hj (Nat.not_lt_zero _)⟩
    | false =>
      rcases findI_cases t l with ⟨e, hall⟩ | ⟨k, hk, e, hkt, hall⟩
      · refine .inl ⟨by simp [findI, h, e], fun j hj => ?_⟩
        cases j with
        | zero => simpa using h
        | succ j => simpa using hall j (by simpa using hj)
      · refine .inr ⟨k + 1, by simpa using hk, by simp [findI, h, e], by simpa using hkt, fun j hj => ?_⟩
        cases j with
        | zero => simpa using h
        | succ j => simpa using hall j (by omega)

theorem bcell {W w1 : World} (hb : Below W.heap.size W w1) : (∀ b o, b < W.heap.size → w1.cell? ⟨b, o, none⟩ = W.cell? ⟨b, o, none⟩) ∧ (∀ b o, b < W.heap.size → w1.frozen? ⟨b, o, none⟩ = W.frozen? ⟨b, o, none⟩) :=
  ⟨fun b o h => hb.cell (p := ⟨b, o, none⟩) h, fun b o h => hb.frozen (p := ⟨b, o, none⟩) h⟩

theorem below_set7 {B g : Nat} {a w : World} (h : Below B a w) (hg : B ≤ g) (v0 v1 v2 v3 v4 v5 v6 : Value) :
    Below B a (((((((w.setCell ⟨g, 0, none⟩ v0).setCell ⟨g, 1, none⟩ v1).setCell ⟨g, 2, none⟩ v2).setCell ⟨g, 3, none⟩ v3).setCell ⟨g, 4, none⟩ v4).setCell ⟨g, 5, none⟩ v5).setCell ⟨g, 6, none⟩ v6) :=
  ((((((h.setCell (p := ⟨g, 0, none⟩) hg _).setCell (p := ⟨g, 1, none⟩) hg _).setCell (p := ⟨g, 2, none⟩) hg _).setCell (p := ⟨g, 3, none⟩) hg _).setCell (p := ⟨g, 4, none⟩) hg _).setCell (p := ⟨g, 5, none⟩) hg _).setCell (p := ⟨g, 6, none⟩) hg _

/-- What Find returns: the rule (a zero rule) and whether there is one. -/
def foundV (o : Option Rule) : Value := match o with
  | some r => .tuple #[.agg #[.string r.tag, .bool r.rep, .bool r.must, .string r.codes, .string r.once, .string r.needs, .int .i64 r.auth], .bool true]
  | none => .tuple #[.agg #[.string ⟨#[]⟩, .bool false, .bool false, .string ⟨#[]⟩, .string ⟨#[]⟩, .string ⟨#[]⟩, .int .i64 0], .bool false]

set_option maxHeartbeats 1000000 in
theorem reffind_any (b off c : Nat) (rs : List Rule) (t : ByteArray) (w : World) (hb : b < w.heap.size) (hc : RulesAt w b off rs) (hbig : rs.length ≤ 65536) :
    Calls Tryd.prog 7 #[.slice (some ⟨b, off, none⟩) rs.length c, .string t] w fun e w' => e = .returned (foundV (findI t rs)) ∧ Below w.heap.size w w' := by
  rcases findI_cases t rs with ⟨e, hall⟩ | ⟨K, hK, e, hkt, hall⟩
  · rw [e]
    have HA := Lib.hid hall
    clear e hall
    go_enter Tryd.func7, Tryd.ntmps7
    go_wp2
    go_loop [6] (fun i => ∃ k : Nat, k ≤ rs.length ∧ i = .int .i64 k) (fun i => rs.length - (intOf i).toNat)
    case atStart => exact ⟨0, Nat.zero_le _, rfl⟩
    case round =>
      obtain ⟨k, hk, rfl⟩ := hrel
      by_cases hlt : k < rs.length
      · obtain ⟨c0, c1, c2, c3, c4, c5, c6⟩ := hc.at_ k hlt
        have hne := HA.out k hlt
        unfold eqT at hne
        clear hc
        generalize rs[k]! = r at c0 c1 c2 c3 c4 c5 c6 hne
        go_wp2
        go_round
        case rel => exact ⟨k + 1, by omega, by go_num⟩
        case measure => simp [intOf]; omega
      · obtain rfl : k = rs.length := by omega
        clear hc
        go_wp2
        exact bodyPost_ret (v := foundV none) (by simp [results, Tryd.results7, go_sem, foundV]) rfl ⟨rfl, (Below.refl _ _).alloc (Nat.le_refl _) _⟩
  · rw [e]
    have HA := Lib.hid hall
    have HT := Lib.hid hkt
    clear e hall hkt
    obtain ⟨R, eR⟩ : ∃ R, R = rs[K]! := ⟨_, rfl⟩
    rw [← eR] at HT ⊢
    have ER := Lib.hid eR
    clear eR
    go_enter Tryd.func7, Tryd.ntmps7
    go_wp2
    go_loop [6] (fun i => ∃ k : Nat, k ≤ K ∧ i = .int .i64 k) (fun i => rs.length - (intOf i).toNat)
    case atStart => exact ⟨0, Nat.zero_le _, rfl⟩
    case round =>
      obtain ⟨k, hk, rfl⟩ := hrel
      have hlt : k < rs.length := by omega
      by_cases hlK : k < K
      · obtain ⟨c0, c1, c2, c3, c4, c5, c6⟩ := hc.at_ k hlt
        have hne := HA.out k hlK
        unfold eqT at hne
        clear hc
        generalize rs[k]! = r at c0 c1 c2 c3 c4 c5 c6 hne
        go_wp2
        go_round
        case rel => exact ⟨k + 1, by omega, by go_num⟩
        case measure => simp [intOf]; omega
      · obtain rfl : k = K := by omega
        obtain ⟨c0, c1, c2, c3, c4, c5, c6⟩ := hc.at_ k hlt
        rw [← ER.out] at c0 c1 c2 c3 c4 c5 c6
        have hne := HT.out
        unfold eqT at hne
        clear hc
        go_wp2
        exact bodyPost_ret (v := foundV (some R)) (by simp [results, Tryd.results7, go_sem, foundV]) rfl ⟨rfl, (Below.refl _ _).alloc (Nat.le_refl _) _⟩

set_option maxHeartbeats 1000000 in
theorem find_any (b off c : Nat) (rs : List Rule) (t : ByteArray) (w : World) (hb : b < w.heap.size) (hc : RulesAt w b off rs) (hbig : rs.length ≤ 65536) :
    Calls Tryd.prog 6 #[.slice (some ⟨b, off, none⟩) rs.length c, .string t] w fun e w' => e = .returned (foundV (findI t rs)) ∧ Below w.heap.size w w' := by
  have eg : ∀ args w, (callFunc 16 args).run Tryd.prog w = .ok (.enter 16 args) w := enters_of Tryd.func16 (by kernel_rfl) rfl
  have hB0 : Below w.heap.size w ((w.alloc (.cells #[.string t] 9)).alloc (.cells #[.string ⟨#[]⟩, .bool false, .bool false, .string ⟨#[]⟩, .string ⟨#[]⟩, .string ⟨#[]⟩, .int .i64 0] 25)) :=
    ((Below.refl _ _).alloc (Nat.le_refl _) _).alloc (by simp) _
  have hcon := AnyQ.slices_IndexFunc Tryd.laysIndex 7 Tryd.isAgg25 Tryd.sizeOf25 encR encR_len (fun x => eqT x.tag t) 16 #[.pointer (some ⟨w.heap.size, 0, none⟩)] eg b off rs.length c rs ((w.alloc (.cells #[.string t] 9)).alloc (.cells #[.string ⟨#[]⟩, .bool false, .bool false, .string ⟨#[]⟩, .string ⟨#[]⟩, .string ⟨#[]⟩, .int .i64 0] 25))
    (pred_any t w.heap.size _ (by simp; omega) (by simp)) (Nat.le_refl _) (by omega) (by simp; omega) (hc.below hB0 hb)
  change Calls Tryd.prog 15 _ _ _ at hcon
  rcases findI_cases t rs with ⟨e, hall⟩ | ⟨K, hK, e, hkt, hall⟩
  · rw [e]
    rw [Lib.idxBy_miss _ _ _ _ hall] at hcon
    clear e hall hc
    have HC := Lib.hid hcon
    clear hcon
    go_enter Tryd.func6, Tryd.ntmps6
    go_wp2_with (go_at_call 15; refine HC.out.mono ?_; rintro e w' ⟨rfl, hb'⟩; obtain ⟨hcc, hff⟩ := bcell hb'; have HB := hB0.trans (hb'.mono (by simp; omega)))
    exact bodyPost_ret (v := foundV none) (by simp [results, Tryd.results6, go_sem, foundV, hcc]) rfl ⟨rfl, below_set7 HB (Nat.le_succ _) _ _ _ _ _ _ _⟩
  · rw [e]
    rw [Lib.idxBy_hit _ _ _ _ _ hK (Nat.le_refl _) hkt hall] at hcon
    obtain ⟨R, eR⟩ : ∃ R, R = rs[K]! := ⟨_, rfl⟩
    rw [← eR]
    have ER := Lib.hid eR
    have HC := Lib.hid hcon
    have HR := Lib.hid hc
    clear e hall hc hkt eR hcon
    go_enter Tryd.func6, Tryd.ntmps6
    go_wp2_with (go_at_call 15; refine HC.out.mono ?_; rintro e w' ⟨rfl, hb'⟩; obtain ⟨hcc, hff⟩ := bcell hb'; have HB := hB0.trans (hb'.mono (by simp; omega)); obtain ⟨c0, c1, c2, c3, c4, c5, c6⟩ := (HR.out.below HB hb).at_ K hK; rw [← ER.out] at c0 c1 c2 c3 c4 c5 c6)
    exact bodyPost_ret (v := foundV (some R)) (by simp [results, Tryd.results6, go_sem, foundV, hcc]) rfl ⟨rfl, below_set7 HB (Nat.le_succ _) _ _ _ _ _ _ _⟩
end Go.Proofs.YtgpmbkbhkjepgaaDoor
