/-
  '==' AND '!=' OF TWO EQUAL RULES, OF TWO PROBLEMS; THE WALK OF THE REFERENCE's Same AT TWO LISTS THAT READ ALIKE: true; but for draws the world is as it was. Conditions: the lists lie in memory as told.
-/
import Derived.Test.YtgpmbkbhkjepgaaDoorRuleA
import Derived.Deep.QuietTactic
import Derived.BigQuiet
import Derived.Laws.StructEq
namespace Go.Proofs.YtgpmbkbhkjepgaaDoor
open Go.RowKit

theorem str25 : Tryd.prog.underlying 25 = some (.struct (Tryd.prog.fieldsOf 25)) := by kernel_rfl
theorem held25 : Tryd.prog.stoodInHeld 25 = false := by kernel_rfl
theorem neq_rule (r : Rule) (w : World) : (binOp .neq 25 (.agg #[.string r.tag, .bool r.rep, .bool r.must, .string r.codes, .string r.once, .string r.needs, .int .i64 r.auth]) (.agg #[.string r.tag, .bool r.rep, .bool r.must, .string r.codes, .string r.once, .string r.needs, .int .i64 r.auth])).run Tryd.prog w = .ok (.bool false) w := by
  have u3 := Tryd.underlying3
  have u4 := Tryd.underlying4
  have u9 := Tryd.underlying9
  have a3 := Tryd.isAgg3
  have a4 := Tryd.isAgg4
  have a9 := Tryd.isAgg9
  have z3 := Tryd.sizeOf3
  have z4 := Tryd.sizeOf4
  have z9 := Tryd.sizeOf9
  rw [run_neq_struct, show (10000 : Nat) = 9999 + 1 from rfl, run_equalIn_agg w 9999 25 _ _ str25 held25]
  simp only [Program.fieldsOf, Tryd.underlying25]
  go_simp

set_option maxHeartbeats 1000000 in
theorem same_any (b off c b' off' c' : Nat) (rs : List Rule) (w : World) (hc : RulesAt w b off rs) (hc' : RulesAt w b' off' rs) (hbig : rs.length ≤ 65536) :
    Calls Tryd.prog 10 #[.slice (some ⟨b, off, none⟩) rs.length c, .slice (some ⟨b', off', none⟩) rs.length c'] w fun e w' => e = .returned (.bool true) ∧ Quiet w w' := by
  have HC := Lib.hid hc
  have HC' := Lib.hid hc'
  clear hc hc'
  go_enter Tryd.func10, Tryd.ntmps10
  go_wp2
  go_loopw [5] (fun i wr => ∃ k : Nat, k ≤ rs.length ∧ i = .int .i64 k ∧ Quiet w wr) (fun i _ => rs.length - (intOf i).toNat)
  case atStart => exact ⟨0, Nat.zero_le _, rfl, Quiet.refl w⟩
  case round =>
    obtain ⟨k, hk, rfl, hq⟩ := hrel
    by_cases hlt : k < rs.length
    · obtain ⟨c0, c1, c2, c3, c4, c5, c6⟩ := HC.out.at_ k hlt
      obtain ⟨d0, d1, d2, d3, d4, d5, d6⟩ := HC'.out.at_ k hlt
      generalize rs[k]! = r at c0 c1 c2 c3 c4 c5 c6 d0 d1 d2 d3 d4 d5 d6
      have hne := neq_rule r
      obtain ⟨n, rfl⟩ := hq
      go_wp2
      go_quiet (fail)
      go_wp2
      go_roundw
      case rel => exact ⟨k + 1, by omega, by go_num, ⟨_, rfl⟩⟩
      case measure => simp [intOf]; omega
    · obtain rfl : k = rs.length := by omega
      go_wp2
      go_ret
      exact ⟨rfl, hq⟩
end Go.Proofs.YtgpmbkbhkjepgaaDoor
