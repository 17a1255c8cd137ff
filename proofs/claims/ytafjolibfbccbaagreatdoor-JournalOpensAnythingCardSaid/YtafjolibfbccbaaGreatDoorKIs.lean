/-
  errors.Is at the error itself.
-/
import Derived.Test.YtafjolibfbccbaaGreatDoorProg
import Derived.WalkKit
import Derived.LaidEql
import Derived.Stop.Asserts
import Derived.RowKitTokens
import Derived.LoopN
namespace Go.Proofs.YtafjolibfbccbaaGreatDoor
open Go.RowKit Go.Extern.Stop Go.Stop Go.Extern

/-- How many package-level variables there are: behind them lie the types' own rows. -/
theorem is_typeOf (v : Value) (w : World) : (Extern.ReflectliteType.typeOf #[.iface 222 v]).run Tryz.prog w = .ok (.iface 171 (.agg #[.pointer (some ⟨5, 222, none⟩)])) w := by kernel_rfl
abbrev isEntry : Array Value → Sem Value := Extern.ReflectliteType.method fun t => do Extern.Rtype.noPackHeld "Comparable" t; pure (.bool (← typeInfo t).comparable)
theorem is_comparable (w : World) : (isEntry #[.agg #[.pointer (some ⟨5, 222, none⟩)]]).run Tryz.prog w = .ok (.bool true) w := by kernel_rfl
theorem is_method (n : Nat) (v : Value) (w : World) : (Go.method (n + 1) 171 v "Comparable").run Tryz.prog w = .ok (171, v) w := by kernel_rfl
theorem is_comp : (Tryz.prog.info? 222).map (·.comparable) = some true := by kernel_rfl
theorem is_size : (Tryz.prog.info? 244).map (·.size) = some 1 := by kernel_rfl

theorem is_same (a : Addr) (w : World) :
    Calls Tryz.prog 77 #[.iface 222 (.pointer (some a)), .iface 222 (.pointer (some a))] w fun e w' => e = .returned (.bool true) ∧ w = w' := by
  obtain ⟨i, hi, hcmp⟩ := Option.map_eq_some_iff.1 is_comp
  obtain ⟨j, hj, hjs⟩ := Option.map_eq_some_iff.1 is_size
  have h8 := @run_callFunc_extern Tryz.prog 98 _ Extern.ReflectliteType.typeOf Tryz.func98 (by kernel_rfl) (by kernel_rfl) (by kernel_rfl) (by kernel_rfl)
  have h32 := @run_callFunc_extern Tryz.prog 171 _ isEntry Tryz.func171 (by kernel_rfl) (by kernel_rfl) (by kernel_rfl) (by kernel_rfl)
  have tT := is_typeOf
  have cT := is_comparable
  have mR := is_method
  have heq := run_eql_iface_ptr_same (P := Tryz.prog) w a Tryz.underlying80 Tryz.underlying222 hi hcmp hj
  go_enter Tryz.func77, Tryz.ntmps77
  go_wp2
  refine wp_loop_rounds 1 ?_
  rw [rounds_succ]
  go_wp2
  go_ret
  exact ⟨rfl, rfl⟩
end Go.Proofs.YtafjolibfbccbaaGreatDoor
