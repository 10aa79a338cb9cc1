/-
  THE WALK OF the statement's one: a record with one field, whose subfields have the codes of a text; what lay in memory lies there still. Condition: the text is short and not empty.
-/
import Derived.Test.YtgpmbkbhkjepgaaDoorChkE
import Derived.Deep.RegionLaw
namespace Go.Proofs.YtgpmbkbhkjepgaaDoor
open Go.RowKit

/-- The subfields of the first k codes. -/
def subsOf (s : ByteArray) (k : Nat) : List Sub := (List.range k).map fun i => ⟨needC s i, ⟨#[120]⟩⟩
theorem subsOf_succ (s : ByteArray) (k : Nat) : (subsOf s (k + 1)).flatMap encS = (subsOf s k).flatMap encS ++ [.int .u8 (needC s k), .string ⟨#[120]⟩] := by
  simp [subsOf, List.range_succ, encS]
theorem info54 : (Tryd.prog.info? 54).map (fun i => (i.zero, i.size, i.bytes)) = some (some (.agg #[.int .u8 0, .string ⟨#[]⟩]), 2, 24) := by kernel_rfl

theorem flatk {α : Type} [Inhabited α] (enc : α → List Value) (k : Nat) (hk : ∀ x, (enc x).length = k) : ∀ (l : List α) (j i : Nat), j < l.length → i < k → (l.flatMap enc)[j * k + i]? = (enc l[j]!)[i]?
  | [], j, _, hj, _ => absurd hj (Nat.not_lt_zero _)
  | r :: l, 0, i, _, hi => by
    rw [List.flatMap_cons, Nat.zero_mul, Nat.zero_add, List.getElem?_append_left (by rw [hk]; exact hi)]
    rfl
  | r :: l, j + 1, i, hj, hi => by
    have e : (j + 1) * k = j * k + k := Nat.succ_mul j k
    rw [List.flatMap_cons, List.getElem?_append_right (by rw [hk]; omega), hk, show (j + 1) * k + i - k = j * k + i by omega, flatk enc k hk l j i (by simpa using hj) hi]
    simp
theorem subsAt_of_flat {w : World} {b : Nat} {l : List Sub} (h : ∀ j u, (l.flatMap encS)[j]? = some u → w.cell? ⟨b, j, none⟩ = some u) : SubsAt w b 0 l := fun j hj i v hi => by
  have h2 : i < 2 := by
    have := (List.getElem?_eq_some_iff.1 hi).1
    rwa [encS_len] at this
  rw [Nat.zero_add]
  exact h (j * 2 + i) v (by rw [flatk encS 2 encS_len l j i hj h2]; exact hi)
theorem below_set5 {B g : Nat} {a w : World} (h : Below B a w) (hg : B ≤ g) (v0 v1 v2 v3 v4 : Value) :
    Below B a (((((w.setCell ⟨g, 0, none⟩ v0).setCell ⟨g, 1, none⟩ v1).setCell ⟨g, 2, none⟩ v2).setCell ⟨g, 3, none⟩ v3).setCell ⟨g, 4, none⟩ v4) :=
  ((((h.setCell (p := ⟨g, 0, none⟩) hg _).setCell (p := ⟨g, 1, none⟩) hg _).setCell (p := ⟨g, 2, none⟩) hg _).setCell (p := ⟨g, 3, none⟩) hg _).setCell (p := ⟨g, 4, none⟩) hg _
theorem own_set5 {B g : Nat} {w : World} {e : TypeId} {size n : Nat} {v : Value} {xs : List Value} (h : w.ownsRow B e size v n xs) (hg : g < B) (v0 v1 v2 v3 v4 : Value) :
    (((((w.setCell ⟨g, 0, none⟩ v0).setCell ⟨g, 1, none⟩ v1).setCell ⟨g, 2, none⟩ v2).setCell ⟨g, 3, none⟩ v3).setCell ⟨g, 4, none⟩ v4).ownsRow B e size v n xs :=
  ownsRow_setCell_below (ownsRow_setCell_below (ownsRow_setCell_below (ownsRow_setCell_below (ownsRow_setCell_below h hg _) hg _) hg _) hg _) hg _
theorem fld_new {w : World} {f : Fld} {g : Nat} (hg : w.heap.size = g) : FldsAt (w.alloc (.cells #[.string f.tag, .string f.ind, f.subs, .int .i64 f.auth] 52)) g 0 [f] := fun j hj i v hi => by
  obtain rfl : j = 0 := by simpa using hj
  subst hg
  rw [cell_of_row _ _ _ _ _ _ (heap_alloc_new w _)]
  simpa [encF] using hi
theorem subs_own {w : World} {B g n cap : Nat} {l : List Sub} (h : w.ownsRow B 54 2 (.slice (some ⟨g, 0, none⟩) n cap) n (l.flatMap encS)) : SubsAt w g 0 l :=
  subsAt_of_flat fun j u hu => by
    have := h.cells (g := g) rfl j u hu
    rwa [Addr.add_lit, Nat.zero_add] at this

/-- append of one element onto a row of the call's own, as one step of a region that draws. -/
theorem step_append_one {P : Program} {ops : Array Oper} {o : Oper} {a : Act} {w : World} {K : Act → World → Prop} {Q : Exit → Act → World → Prop} {E : Prop} (hgd : o.guard = none) (s x : Operand) (t : TypeId)
    (ho : o.op = .call { callee := .builtin .append, args := #[s, x], argTypes := #[t, t] })
    (base : Nat) (e : TypeId) (i : TypeInfo) (z : Value) (size bytes : Nat) (ht : P.underlying t = some (.slice e)) (hi : P.info? e = some i) (hz : i.zero = some z)
    (hsize : i.size = size) (hby : i.bytes = bytes) (hzs : z.cells.size = size) (hsz : 0 < size)
    (v : Value) (n : Nat) (xs : List Value) (hs : a.eval s = v) (hown : w.ownsRow base e size v n xs)
    (ad : Addr) (c : Nat) (news : List Value) (hx : a.eval x = .slice (some ad) 1 c) (hl : news.length = size) (hnews : ∀ j u, news[j]? = some u → w.cell? (ad.add j) = some u) (h1 : ∀ u ∈ news, u.oneCell' = true)
    (h63 : n + 1 ≤ maxLen) (hbytes : (n + 1) * bytes ≤ 140737488355328) (hbase : base ≤ w.heap.size)
    (h : ∀ (g cap : Nat) (w1 : World), Hid (w1.ownsRow base e size (.slice (some ⟨g, 0, none⟩) (n + 1) cap) (n + 1) (xs ++ news)) → Below base w w1 → K (a.put o.dst (.slice (some ⟨g, 0, none⟩) (n + 1) cap)) w1) :
    if Region.wanted o (yielded ops a.tmps) = true then Oper.wp P o a w K Q else E := by
  have hw : Region.wanted o (yielded ops a.tmps) = true := by simp [Region.wanted, hgd]
  rw [if_pos hw]
  refine wp_append_own w s x t ho base e i z size bytes ht hi hz hsize hby hzs hsz v n xs hs hown ad 1 c news hx (by omega) hnews h1 h63 hbytes hbase fun v' w' h2 h3 _ => ?_
  obtain ⟨g, cap, rfl⟩ := Joins.ownsRow_form h2 (by omega)
  exact h g cap w' h2 ((Below.refl _ _).grown h3 hbase fun k hk => (hown.lt k hk).1)

set_option maxRecDepth 100000 in
set_option maxHeartbeats 2000000 in
theorem one_any (tag codes : ByteArray) (w : World) (hs : codes.size ≤ 60) (h0 : 0 < codes.size) :
    Calls Tryd.prog 19 #[.string tag, .string codes] w fun e w' => ∃ gf gs cap, e = .returned (.agg #[.int .i64 1, .int .i64 3, .int .i64 1, .string ⟨#[101, 110, 103]⟩, .slice (some ⟨gf, 0, none⟩) 1 1]) ∧ gf < w'.heap.size ∧ gs < w'.heap.size ∧
      FldsAt w' gf 0 [⟨tag, ⟨#[32, 32]⟩, .slice (some ⟨gs, 0, none⟩) codes.size cap, 0⟩] ∧ SubsAt w' gs 0 (subsOf codes codes.size) ∧ codes.size ≤ cap ∧ Below w.heap.size w w' := by
  obtain ⟨i0, hi0, hz0, hz1, hz2⟩ := info_parts info54
  go_enter Tryd.func19, Tryd.ntmps19
  go_wp2
  go_loopw [6] (fun i wr => ∃ k : Nat, k ≤ codes.size ∧ i = .int .i64 k ∧ ∃ v, Below (w.heap.size + 1) (w.alloc (.cells #[.int .i64 0, .int .i64 0, .int .i64 0, .string ⟨#[]⟩, .slice none 0 0] 36)) wr ∧
    wr.cell? ⟨w.heap.size + 1, 0, none⟩ = some (.string tag) ∧ wr.cell? ⟨w.heap.size + 1, 1, none⟩ = some (.string ⟨#[32, 32]⟩) ∧ wr.cell? ⟨w.heap.size + 1, 2, none⟩ = some v ∧ wr.cell? ⟨w.heap.size + 1, 3, none⟩ = some (.int .i64 0) ∧
    (∀ i, wr.frozen? ⟨w.heap.size + 1, i, none⟩ = false) ∧ Hid (wr.ownsRow (w.heap.size + 2) 54 2 v k ((subsOf codes k).flatMap encS))) (fun i _ => codes.size - (intOf i).toNat)
  case atStart => exact ⟨0, Nat.zero_le _, rfl, .slice none 0 0, (Below.refl _ _).alloc (by simp) _, by go_simp, by go_simp, by go_simp, by go_simp, fun i => by go_simp, World.ownsRow_nil _ _ _ _⟩
  case round =>
    obtain ⟨k, hk, rfl, v, hB, c0, c1, c2, c3, hf, hO⟩ := hrel
    have hz : w.heap.size + 1 < wr.heap.size := by
      rcases Nat.lt_or_ge (w.heap.size + 1) wr.heap.size with h | h
      · exact h
      · simp [World.cell?, Array.getElem?_eq_none h] at c0
    by_cases hlt : k < codes.size
    · have e0 : (0 : Int) ≤ (k : Int) := by omega
      have e1 : (k : Int) < (codes.size : Int) := by omega
      have f2 := hf 2
      have HF := Lib.hid hf
      clear hf
      have HL : Hid ((subsOf codes (k + 1)).flatMap encS = (subsOf codes k).flatMap encS ++ [.int .u8 (codes[k].toNat : Int), .string ⟨#[120]⟩]) := by
        show _ = _
        rw [subsOf_succ, needC_at _ _ hlt]
      go_wp2
      have hcells : Hid (∀ j u, ([.int .u8 (codes[k].toNat : Int), .string ⟨#[120]⟩] : List Value)[j]? = some u → (wr.alloc (.cells #[.int .u8 (codes[k].toNat : Int), .string ⟨#[120]⟩] 54)).cell? ((⟨wr.heap.size, 0, none⟩ : Addr).add j) = some u) := by
        intro j u hj
        rw [Addr.add_lit, cell_of_row _ _ _ _ _ _ (heap_alloc_new wr _), Nat.zero_add]
        simpa using hj
      have hones : Hid (∀ u ∈ ([.int .u8 (codes[k].toNat : Int), .string ⟨#[120]⟩] : List Value), u.oneCell' = true) := by
        intro u hu
        simp only [List.mem_cons, List.mem_nil_iff, or_false] at hu
        rcases hu with rfl | rfl <;> rfl
      have hmx : k + 1 ≤ maxLen := by unfold maxLen; omega
      have hby : (k + 1) * 24 ≤ 140737488355328 := by omega
      have hbase : w.heap.size + 2 ≤ (wr.alloc (.cells #[.int .u8 (codes[k].toNat : Int), .string ⟨#[120]⟩] 54)).heap.size := by rw [World.size_alloc]; omega
      have hO2 := Lib.hid (hO.out.alloc (.cells #[.int .u8 (codes[k].toNat : Int), .string ⟨#[120]⟩] 54))
      have k2 : Hid ((wr.alloc (.cells #[.int .u8 (codes[k].toNat : Int), .string ⟨#[120]⟩] 54)).cell? ⟨w.heap.size + 1, 2, none⟩ = some v) := by
        show _ = _
        rw [World.cell?_alloc_lt _ _ _ hz]; exact c2
      have k3 : Hid ((wr.alloc (.cells #[.int .u8 (codes[k].toNat : Int), .string ⟨#[120]⟩] 54)).frozen? ⟨w.heap.size + 1, 2, none⟩ = false) := by
        show _ = _
        rw [(((Below.refl wr.heap.size wr).alloc (Nat.le_refl _) _).frozen (p := ⟨w.heap.size + 1, 2, none⟩) hz)]; exact f2
      go_region_law ((refine step_append_one rfl (.tmp 16) (.tmp 21) 50 rfl (w.heap.size + 2) 54 i0 _ 2 24 Tryd.underlying50 hi0 hz0 hz1 hz2 rfl (by decide) v k _ rfl hO2.out ⟨wr.heap.size, 0, none⟩ 1 [.int .u8 (codes[k].toNat : Int), .string ⟨#[120]⟩] rfl rfl hcells.out hones.out hmx hby hbase (fun g cap w1 hown1 hb1 => ?_); have d2 := (hb1.cell (p := ⟨w.heap.size + 1, 2, none⟩) (Nat.lt_succ_self _)).trans k2.out; have d3 := (hb1.frozen (p := ⟨w.heap.size + 1, 2, none⟩) (Nat.lt_succ_self _)).trans k3.out))
      all_goals
        have hBw : Below (w.heap.size + 1) (w.alloc (.cells #[.int .i64 0, .int .i64 0, .int .i64 0, .string ⟨#[]⟩, .slice none 0 0] 36)) w1 := by
          first
            | exact (hB.alloc (Nat.le_of_lt hz) _).trans (hb1.mono (Nat.le_succ _))
            | exact (hB.alloc (Nat.le_of_lt hz) _).drew.trans (hb1.mono (Nat.le_succ _))
        have ez : (subsOf codes (k + 1)).flatMap encS = (subsOf codes k).flatMap encS ++ [.int .u8 (codes[k].toNat : Int), .string ⟨#[120]⟩] := HL.out
        have e0 : w1.cell? ⟨w.heap.size + 1, 0, none⟩ = some (.string tag) := (hb1.cell (p := ⟨w.heap.size + 1, 0, none⟩) (Nat.lt_succ_self _)).trans ((World.cell?_alloc_lt wr _ ⟨w.heap.size + 1, 0, none⟩ hz).trans c0)
        have e1' : w1.cell? ⟨w.heap.size + 1, 1, none⟩ = some (.string ⟨#[32, 32]⟩) := (hb1.cell (p := ⟨w.heap.size + 1, 1, none⟩) (Nat.lt_succ_self _)).trans ((World.cell?_alloc_lt wr _ ⟨w.heap.size + 1, 1, none⟩ hz).trans c1)
        have e3 : w1.cell? ⟨w.heap.size + 1, 3, none⟩ = some (.int .i64 0) := (hb1.cell (p := ⟨w.heap.size + 1, 3, none⟩) (Nat.lt_succ_self _)).trans ((World.cell?_alloc_lt wr _ ⟨w.heap.size + 1, 3, none⟩ hz).trans c3)
        have EZ := Lib.hid ez
        clear ez
        go_wp2
        go_roundw
        case rel =>
          refine ⟨k + 1, by omega, by go_num, _, hBw.setCell (Nat.le_refl _) _, ?_, ?_, World.cell?_setCell_same' w1 _ _ (by rw [d2]; rfl), ?_, fun i => ?_, ?_⟩
          · rw [World.cell?_setCell_other _ _ _ _ (by simp)]; exact e0
          · rw [World.cell?_setCell_other _ _ _ _ (by simp)]; exact e1'
          · rw [World.cell?_setCell_other _ _ _ _ (by simp)]; exact e3
          · rw [World.frozen?_setCell]
            exact (hb1.frozen (p := ⟨w.heap.size + 1, i, none⟩) (Nat.lt_succ_self _)).trans ((((Below.refl wr.heap.size wr).alloc (Nat.le_refl _) _).frozen (p := ⟨w.heap.size + 1, i, none⟩) hz).trans (HF.out i))
          · rw [EZ.out]; exact ownsRow_setCell_below hown1.out (Nat.lt_succ_self _) _
        case measure => simp [intOf]; omega
    · obtain rfl : k = codes.size := by omega
      obtain ⟨gs, cap, rfl, hcap⟩ : ∃ gs cap, v = .slice (some ⟨gs, 0, none⟩) codes.size cap ∧ codes.size ≤ cap := by
        rcases hO.out.2 with ⟨_, h⟩ | ⟨g, cap, cur, hv, _, _, hc, _⟩
        · omega
        · exact ⟨g, cap, hv, hc⟩
      have r0 : wr.cell? ⟨w.heap.size, 0, none⟩ = some (.int .i64 0) := (hB.cell (p := ⟨w.heap.size, 0, none⟩) (Nat.lt_succ_self _)).trans (by go_simp)
      have r1 : wr.cell? ⟨w.heap.size, 1, none⟩ = some (.int .i64 0) := (hB.cell (p := ⟨w.heap.size, 1, none⟩) (Nat.lt_succ_self _)).trans (by go_simp)
      have r2 : wr.cell? ⟨w.heap.size, 2, none⟩ = some (.int .i64 0) := (hB.cell (p := ⟨w.heap.size, 2, none⟩) (Nat.lt_succ_self _)).trans (by go_simp)
      have r3 : wr.cell? ⟨w.heap.size, 3, none⟩ = some (.string ⟨#[]⟩) := (hB.cell (p := ⟨w.heap.size, 3, none⟩) (Nat.lt_succ_self _)).trans (by go_simp)
      have r4 : wr.cell? ⟨w.heap.size, 4, none⟩ = some (.slice none 0 0) := (hB.cell (p := ⟨w.heap.size, 4, none⟩) (Nat.lt_succ_self _)).trans (by go_simp)
      have g0 : wr.frozen? ⟨w.heap.size, 0, none⟩ = false := (hB.frozen (p := ⟨w.heap.size, 0, none⟩) (Nat.lt_succ_self _)).trans (by go_simp)
      have g1 : wr.frozen? ⟨w.heap.size, 1, none⟩ = false := (hB.frozen (p := ⟨w.heap.size, 1, none⟩) (Nat.lt_succ_self _)).trans (by go_simp)
      have g2 : wr.frozen? ⟨w.heap.size, 2, none⟩ = false := (hB.frozen (p := ⟨w.heap.size, 2, none⟩) (Nat.lt_succ_self _)).trans (by go_simp)
      have g3 : wr.frozen? ⟨w.heap.size, 3, none⟩ = false := (hB.frozen (p := ⟨w.heap.size, 3, none⟩) (Nat.lt_succ_self _)).trans (by go_simp)
      have g4 : wr.frozen? ⟨w.heap.size, 4, none⟩ = false := (hB.frozen (p := ⟨w.heap.size, 4, none⟩) (Nat.lt_succ_self _)).trans (by go_simp)
      have hz0' : w.heap.size < wr.heap.size := by omega
      have HF := Lib.hid hf
      clear hf
      go_wp2
      have hBs := (below_set5 (recW_below hB) (Nat.le_refl _) (.int .i64 1) (.int .i64 3) (.int .i64 1) (.string ⟨#[101, 110, 103]⟩) (.slice (some ⟨wr.heap.size, 0, none⟩) 1 1)).alloc (by simp; omega) (.cells #[.string tag, .string ⟨#[32, 32]⟩, .slice (some ⟨gs, 0, none⟩) codes.size cap, .int .i64 0] 52)
      have hOs := (own_set5 hO.out (g := w.heap.size) (by omega) (.int .i64 1) (.int .i64 3) (.int .i64 1) (.string ⟨#[101, 110, 103]⟩) (.slice (some ⟨wr.heap.size, 0, none⟩) 1 1)).alloc (.cells #[.string tag, .string ⟨#[32, 32]⟩, .slice (some ⟨gs, 0, none⟩) codes.size cap, .int .i64 0] 52)
      have hgl := (hO.out.lt gs rfl).2
      exact bodyPost_ret (v := .agg #[.int .i64 1, .int .i64 3, .int .i64 1, .string ⟨#[101, 110, 103]⟩, .slice (some ⟨wr.heap.size, 0, none⟩) 1 1]) (by simp [results, Tryd.results19, go_sem, r0, r1, r2, r3, r4, hz0']) rfl
        ⟨wr.heap.size, gs, cap, rfl, by simp, by simp; omega, fld_new (f := ⟨tag, ⟨#[32, 32]⟩, .slice (some ⟨gs, 0, none⟩) codes.size cap, 0⟩) (by simp), subs_own hOs, hcap, hBs⟩
end Go.Proofs.YtgpmbkbhkjepgaaDoor
