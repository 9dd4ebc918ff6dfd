/- Equations of the functions, without fuel. Written by a program of this part. -/
import Derived.Test.YtlegaocnobapgaaTab
namespace Go.Proofs.Ytlegaocnobapgaa.Core
open Go
set_option linter.unusedVariables false
set_option maxRecDepth 100000

noncomputable def G70_L0 (s : St) : Option (RT (AFn.outs a70)) := e70_L0 (calL fns prims)  s
noncomputable def W70_L0 (x0 : List Int) (x1 : Int) (x2 : Int) : Option (List Int × Int × Int) := G70_L0 ⟨[(0, .lst (.int .u8) x0), (3, .int .i64 x1), (4, .int .i64 x2)], []⟩
noncomputable def G70_J1 (s : St) : Option (RT (AFn.outs a70)) := e70_J1 (calL fns prims) G70_L0 s
noncomputable def W70_J1 (x0 : List Int) (x1 : Int) (x2 : Int) (x3 : Bool) : Option (List Int × Int × Int) := G70_J1 ⟨[(0, .lst (.int .u8) x0), (3, .int .i64 x1), (4, .int .i64 x2), (15, .bool x3)], []⟩
theorem w70_J1 {x0 : List Int} {x1 : Int} {x2 : Int} {x3 : Bool} {r : List Int × Int × Int} (h : t70_J1   W70_L0 x0 x1 x2 x3 = some r) : W70_J1 x0 x1 x2 x3 = some r := (h70_J1 (calL fns prims) G70_L0 x0 x1 x2 x3).trans h
theorem w70_L0 {x0 : List Int} {x1 : Int} {x2 : Int} {r : List Int × Int × Int} (h : t70_L0  W70_J1 W70_L0 x0 x1 x2 = some r) : W70_L0 x0 x1 x2 = some r := loop_step ((h70_L0 (calL fns prims) G70_L0 x0 x1 x2).trans h)
theorem f70 {x0 : List Int} {r : List Int × Int × Int} (h : t70  W70_L0 x0 = some r) : F70 x0 = some r := call_typed (fn := a70) rfl ⟨rfl, rfl⟩ ((h70 (calL fns prims) x0).trans h)

theorem f71 {x1 : Int} {b0 : List Int × Int × Int} {r : Int × List Int × Int × Int} (h : t71 F80 F106 F107  x1 b0 = some r) : F71 x1 b0 = some r := call_typed (fn := a71) rfl ⟨rfl, rfl⟩ ((h71 (calL fns prims) x1 b0).trans h)

theorem f72 {x0 : ByteArray × ByteArray × Int} {x1 : Int} {r : Int} (h : t72   x0 x1 = some r) : F72 x0 x1 = some r := call_typed (fn := a72) rfl ⟨rfl, rfl⟩ ((h72 (calL fns prims) x0 x1).trans h)

theorem f73 {x0 : ByteArray × ByteArray × Int} {r : ByteArray × ByteArray × Int} (h : t73   x0 = some r) : F73 x0 = some r := call_typed (fn := a73) rfl ⟨rfl, rfl⟩ ((h73 (calL fns prims) x0).trans h)

theorem f74 {x0 : ByteArray} {r : Bool} (h : t74 F67  x0 = some r) : F74 x0 = some r := call_typed (fn := a74) rfl ⟨rfl, rfl⟩ ((h74 (calL fns prims) x0).trans h)

theorem f75 {x0 : List Int} {x1 : Int} {r : Int} (h : t75   x0 x1 = some r) : F75 x0 x1 = some r := call_typed (fn := a75) rfl ⟨rfl, rfl⟩ ((h75 (calL fns prims) x0 x1).trans h)

noncomputable def G76_L0 (s : St) : Option (RT (AFn.outs a76)) := e76_L0 (calL fns prims)  s
noncomputable def W76_L0 (x0 : List Int) (x1 : Int) : Option Bool := G76_L0 ⟨[(0, .lst (.int .i64) x0), (3, .int .i64 x1)], []⟩
theorem w76_L0 {x0 : List Int} {x1 : Int} {r : Bool} (h : t76_L0 F66 F108  W76_L0 x0 x1 = some r) : W76_L0 x0 x1 = some r := loop_step ((h76_L0 (calL fns prims) G76_L0 x0 x1).trans h)
theorem f76 {x0 : List Int} {r : Bool} (h : t76 F66 F108 W76_L0 x0 = some r) : F76 x0 = some r := call_typed (fn := a76) rfl ⟨rfl, rfl⟩ ((h76 (calL fns prims) x0).trans h)

noncomputable def G77_L0 (s : St) : Option (RT (AFn.outs a77)) := e77_L0 (calL fns prims)  s
noncomputable def W77_L0 (x0 : List Int) (x1 : Int) (x2 : List Int) : Option (List Int) := G77_L0 ⟨[(0, .lst (.int .i64) x0), (3, .row 0), (4, .int .i64 x1)], [.rows 3 (.int .i64) x2]⟩
theorem w77_L0 {x0 : List Int} {x1 : Int} {x2 : List Int} {r : List Int} (h : t77_L0   W77_L0 x0 x1 x2 = some r) : W77_L0 x0 x1 x2 = some r := loop_step ((h77_L0 (calL fns prims) G77_L0 x0 x1 x2).trans h)
theorem f77 {x0 : List Int} {r : List Int} (h : t77  W77_L0 x0 = some r) : F77 x0 = some r := call_typed (fn := a77) rfl ⟨rfl, rfl⟩ ((h77 (calL fns prims) x0).trans h)

noncomputable def G78_L0 (s : St) : Option (RT (AFn.outs a78)) := e78_L0 (calL fns prims)  s
noncomputable def W78_L0 (x0 : List Int) (x1 : Int) (x2 : Int) (x3 : Int) : Option Int := G78_L0 ⟨[(0, .lst (.int .i64) x0), (1, .int .i64 x1), (7, .int .i64 x2), (8, .int .i64 x3)], []⟩
theorem w78_L0 {x0 : List Int} {x1 : Int} {x2 : Int} {x3 : Int} {r : Int} (h : t78_L0   W78_L0 x0 x1 x2 x3 = some r) : W78_L0 x0 x1 x2 x3 = some r := loop_step ((h78_L0 (calL fns prims) G78_L0 x0 x1 x2 x3).trans h)
theorem f78 {x0 : List Int} {x1 : Int} {r : Int} (h : t78  W78_L0 x0 x1 = some r) : F78 x0 x1 = some r := call_typed (fn := a78) rfl ⟨rfl, rfl⟩ ((h78 (calL fns prims) x0 x1).trans h)

noncomputable def G79_L0 (s : St) : Option (RT (AFn.outs a79)) := e79_L0 (calL fns prims)  s
noncomputable def W79_L0 (x0 : List Int) (x1 : List Int) (x2 : Int) : Option Bool := G79_L0 ⟨[(0, .lst (.int .i64) x0), (1, .lst (.int .i64) x1), (5, .int .i64 x2)], []⟩
theorem w79_L0 {x0 : List Int} {x1 : List Int} {x2 : Int} {r : Bool} (h : t79_L0   W79_L0 x0 x1 x2 = some r) : W79_L0 x0 x1 x2 = some r := loop_step ((h79_L0 (calL fns prims) G79_L0 x0 x1 x2).trans h)
theorem f79 {x0 : List Int} {x1 : List Int} {r : Bool} (h : t79  W79_L0 x0 x1 = some r) : F79 x0 x1 = some r := call_typed (fn := a79) rfl ⟨rfl, rfl⟩ ((h79 (calL fns prims) x0 x1).trans h)

theorem f80 {x1 : Int} {b0 : List Int × Int × Int} {r : Int × List Int × Int × Int} (h : t80 F109  x1 b0 = some r) : F80 x1 b0 = some r := call_typed (fn := a80) rfl ⟨rfl, rfl⟩ ((h80 (calL fns prims) x1 b0).trans h)

theorem f83 {x0 : Int × ByteArray × ByteArray × Int × Int × Int × Int × Int × ByteArray} {r : Bool} (h : t83   x0 = some r) : F83 x0 = some r := call_typed (fn := a83) rfl ⟨rfl, rfl⟩ ((h83 (calL fns prims) x0).trans h)

theorem f84 {x0 : Int × ByteArray × ByteArray × Int × Int × Int × Int × Int × ByteArray} {x1 : Int × ByteArray × ByteArray × Int × Int × Int × Int × Int × ByteArray} {r : Bool} (h : t84   x0 x1 = some r) : F84 x0 x1 = some r := call_typed (fn := a84) rfl ⟨rfl, rfl⟩ ((h84 (calL fns prims) x0 x1).trans h)

theorem f85 {x0 : Int × ByteArray × ByteArray × Int × Int × Int × Int × Int × ByteArray} {x1 : Int × ByteArray × ByteArray × Int × Int × Int × Int × Int × ByteArray} {r : Bool} (h : t85   x0 x1 = some r) : F85 x0 x1 = some r := call_typed (fn := a85) rfl ⟨rfl, rfl⟩ ((h85 (calL fns prims) x0 x1).trans h)

theorem f87 {x0 : Int × Int × Int × (ByteArray × ByteArray × Int) × List Int} {x1 : Int} {r : Int} (h : t87 F72 F75  x0 x1 = some r) : F87 x0 x1 = some r := call_typed (fn := a87) rfl ⟨rfl, rfl⟩ ((h87 (calL fns prims) x0 x1).trans h)

noncomputable def G88_L0 (s : St) : Option (RT (AFn.outs a88)) := e88_L0 (calL fns prims)  s
noncomputable def W88_L0 (x0 : List Int) (x1 : Int) : Option Bool := G88_L0 ⟨[(0, .lst (.int .i64) x0), (3, .int .i64 x1)], []⟩
theorem w88_L0 {x0 : List Int} {x1 : Int} {r : Bool} (h : t88_L0 F66  W88_L0 x0 x1 = some r) : W88_L0 x0 x1 = some r := loop_step ((h88_L0 (calL fns prims) G88_L0 x0 x1).trans h)
theorem f88 {x0 : List Int} {r : Bool} (h : t88 F66 W88_L0 x0 = some r) : F88 x0 = some r := call_typed (fn := a88) rfl ⟨rfl, rfl⟩ ((h88 (calL fns prims) x0).trans h)

theorem f89 {x0 : Int × Int × Int × (ByteArray × ByteArray × Int) × List Int} {r : Bool} (h : t89   x0 = some r) : F89 x0 = some r := call_typed (fn := a89) rfl ⟨rfl, rfl⟩ ((h89 (calL fns prims) x0).trans h)

theorem f90 {x0 : Int × Int × Int × (ByteArray × ByteArray × Int) × List Int} {r : Int × Int × Int × (ByteArray × ByteArray × Int) × List Int} (h : t90 F73 F77  x0 = some r) : F90 x0 = some r := call_typed (fn := a90) rfl ⟨rfl, rfl⟩ ((h90 (calL fns prims) x0).trans h)

noncomputable def G91_L0 (s : St) : Option (RT (AFn.outs a91)) := e91_L0 (calL fns prims)  s
noncomputable def W91_L0 (x0 : List Int) (x1 : Int) (x2 : Int) (x3 : List Int) (x4 : Int) (x5 : Int) : Option Bool := G91_L0 ⟨[(0, .lst (.int .i64) x0), (1, .int .i64 x1), (2, .int .i64 x2), (9, .lst (.int .i64) x3), (10, .int .i64 x4), (11, .int .i64 x5)], []⟩
theorem w91_L0 {x0 : List Int} {x1 : Int} {x2 : Int} {x3 : List Int} {x4 : Int} {x5 : Int} {r : Bool} (h : t91_L0 F67  W91_L0 x0 x1 x2 x3 x4 x5 = some r) : W91_L0 x0 x1 x2 x3 x4 x5 = some r := loop_step ((h91_L0 (calL fns prims) G91_L0 x0 x1 x2 x3 x4 x5).trans h)
theorem f91 {x0 : List Int} {x1 : Int} {x2 : Int} {r : Bool} (h : t91 F67 W91_L0 x0 x1 x2 = some r) : F91 x0 x1 x2 = some r := call_typed (fn := a91) rfl ⟨rfl, rfl⟩ ((h91 (calL fns prims) x0 x1 x2).trans h)

theorem f92 {b0 : Int × Int × Bool × Bool × Bool × Bool × List Int × List (ByteArray × ByteArray × Int) × Int × Int × Int × Int × (ByteArray × ByteArray × Int) × List Int} {r : Bool × Int × Int × Bool × Bool × Bool × Bool × List Int × List (ByteArray × ByteArray × Int) × Int × Int × Int × Int × (ByteArray × ByteArray × Int) × List Int} (h : t92 F67 F91  b0 = some r) : F92 b0 = some r := call_typed (fn := a92) rfl ⟨rfl, rfl⟩ ((h92 (calL fns prims) b0).trans h)

theorem f93 {x0 : Int × Int × Int × (ByteArray × ByteArray × Int) × List Int} {x1 : Int × Int × Int × (ByteArray × ByteArray × Int) × List Int} {r : Bool} (h : t93 F32 F79  x0 x1 = some r) : F93 x0 x1 = some r := call_typed (fn := a93) rfl ⟨rfl, rfl⟩ ((h93 (calL fns prims) x0 x1).trans h)

noncomputable def G94_L0 (s : St) : Option (RT (AFn.outs a94)) := e94_L0 (calL fns prims)  s
noncomputable def W94_L0 (x0 : List (Int × Int × ByteArray)) (x1 : Int) (x2 : Int) : Option Int := G94_L0 ⟨[(0, .lst (.pair (.int .i64) (.pair (.int .i64) .str)) x0), (1, .int .i64 x1), (5, .int .i64 x2)], []⟩
theorem w94_L0 {x0 : List (Int × Int × ByteArray)} {x1 : Int} {x2 : Int} {r : Int} (h : t94_L0 F114  W94_L0 x0 x1 x2 = some r) : W94_L0 x0 x1 x2 = some r := loop_step ((h94_L0 (calL fns prims) G94_L0 x0 x1 x2).trans h)
theorem f94 {x0 : List (Int × Int × ByteArray)} {x1 : Int} {r : Int} (h : t94 F114 W94_L0 x0 x1 = some r) : F94 x0 x1 = some r := call_typed (fn := a94) rfl ⟨rfl, rfl⟩ ((h94 (calL fns prims) x0 x1).trans h)

noncomputable def G95_L0 (s : St) : Option (RT (AFn.outs a95)) := e95_L0 (calL fns prims)  s
noncomputable def W95_L0 (x0 : List (Int × Int × ByteArray × List (Int × Int × Int × Int × Int × ByteArray) × Bool × List Int × Bool)) (x1 : Int) (x2 : Int) : Option Int := G95_L0 ⟨[(0, .lst (.pair (.int .i64) (.pair (.int .i64) (.pair .str (.pair (.slice (.pair (.int .i64) (.pair (.int .i64) (.pair (.int .i64) (.pair (.int .i64) (.pair (.int .i64) .str)))))) (.pair .bool (.pair (.slice (.int .i64)) .bool)))))) x0), (1, .int .i64 x1), (5, .int .i64 x2)], []⟩
theorem w95_L0 {x0 : List (Int × Int × ByteArray × List (Int × Int × Int × Int × Int × ByteArray) × Bool × List Int × Bool)} {x1 : Int} {x2 : Int} {r : Int} (h : t95_L0 F115  W95_L0 x0 x1 x2 = some r) : W95_L0 x0 x1 x2 = some r := loop_step ((h95_L0 (calL fns prims) G95_L0 x0 x1 x2).trans h)
theorem f95 {x0 : List (Int × Int × ByteArray × List (Int × Int × Int × Int × Int × ByteArray) × Bool × List Int × Bool)} {x1 : Int} {r : Int} (h : t95 F115 W95_L0 x0 x1 = some r) : F95 x0 x1 = some r := call_typed (fn := a95) rfl ⟨rfl, rfl⟩ ((h95 (calL fns prims) x0 x1).trans h)

noncomputable def G96_L0 (s : St) : Option (RT (AFn.outs a96)) := e96_L0 (calL fns prims)  s
noncomputable def W96_L0 (x0 : List (Int × Int × Int × Int × Int × ByteArray)) (x1 : Int) (x2 : Int) : Option Int := G96_L0 ⟨[(0, .lst (.pair (.int .i64) (.pair (.int .i64) (.pair (.int .i64) (.pair (.int .i64) (.pair (.int .i64) .str))))) x0), (1, .int .i64 x1), (5, .int .i64 x2)], []⟩
theorem w96_L0 {x0 : List (Int × Int × Int × Int × Int × ByteArray)} {x1 : Int} {x2 : Int} {r : Int} (h : t96_L0 F116  W96_L0 x0 x1 x2 = some r) : W96_L0 x0 x1 x2 = some r := loop_step ((h96_L0 (calL fns prims) G96_L0 x0 x1 x2).trans h)
theorem f96 {x0 : List (Int × Int × Int × Int × Int × ByteArray)} {x1 : Int} {r : Int} (h : t96 F116 W96_L0 x0 x1 = some r) : F96 x0 x1 = some r := call_typed (fn := a96) rfl ⟨rfl, rfl⟩ ((h96 (calL fns prims) x0 x1).trans h)

noncomputable def G97_L0 (s : St) : Option (RT (AFn.outs a97)) := e97_L0 (calL fns prims)  s
noncomputable def W97_L0 (x0 : List ByteArray) (x1 : Int) (x2 : Int) : Option Int := G97_L0 ⟨[(0, .lst .str x0), (1, .int .i64 x1), (5, .int .i64 x2)], []⟩
theorem w97_L0 {x0 : List ByteArray} {x1 : Int} {x2 : Int} {r : Int} (h : t97_L0   W97_L0 x0 x1 x2 = some r) : W97_L0 x0 x1 x2 = some r := loop_step ((h97_L0 (calL fns prims) G97_L0 x0 x1 x2).trans h)
theorem f97 {x0 : List ByteArray} {x1 : Int} {r : Int} (h : t97  W97_L0 x0 x1 = some r) : F97 x0 x1 = some r := call_typed (fn := a97) rfl ⟨rfl, rfl⟩ ((h97 (calL fns prims) x0 x1).trans h)

noncomputable def G98_L0 (s : St) : Option (RT (AFn.outs a98)) := e98_L0 (calL fns prims)  s
noncomputable def W98_L0 (x0 : List (Int × Int × ByteArray)) (x1 : Int) (x2 : List (Int × Int × ByteArray)) : Option (List (Int × Int × ByteArray)) := G98_L0 ⟨[(0, .lst (.pair (.int .i64) (.pair (.int .i64) .str)) x0), (3, .row 0), (4, .int .i64 x1)], [.rows 71 (.pair (.int .i64) (.pair (.int .i64) .str)) x2]⟩
theorem w98_L0 {x0 : List (Int × Int × ByteArray)} {x1 : Int} {x2 : List (Int × Int × ByteArray)} {r : List (Int × Int × ByteArray)} (h : t98_L0 F117  W98_L0 x0 x1 x2 = some r) : W98_L0 x0 x1 x2 = some r := loop_step ((h98_L0 (calL fns prims) G98_L0 x0 x1 x2).trans h)
theorem f98 {x0 : List (Int × Int × ByteArray)} {r : List (Int × Int × ByteArray)} (h : t98 F117 W98_L0 x0 = some r) : F98 x0 = some r := call_typed (fn := a98) rfl ⟨rfl, rfl⟩ ((h98 (calL fns prims) x0).trans h)

noncomputable def G99_L0 (s : St) : Option (RT (AFn.outs a99)) := e99_L0 (calL fns prims)  s
noncomputable def W99_L0 (x0 : List (Int × Int × ByteArray × List (Int × Int × Int × Int × Int × ByteArray) × Bool × List Int × Bool)) (x1 : Int) (x2 : List (Int × Int × ByteArray × List (Int × Int × Int × Int × Int × ByteArray) × Bool × List Int × Bool)) : Option (List (Int × Int × ByteArray × List (Int × Int × Int × Int × Int × ByteArray) × Bool × List Int × Bool)) := G99_L0 ⟨[(0, .lst (.pair (.int .i64) (.pair (.int .i64) (.pair .str (.pair (.slice (.pair (.int .i64) (.pair (.int .i64) (.pair (.int .i64) (.pair (.int .i64) (.pair (.int .i64) .str)))))) (.pair .bool (.pair (.slice (.int .i64)) .bool)))))) x0), (3, .row 0), (4, .int .i64 x1)], [.rows 51 (.pair (.int .i64) (.pair (.int .i64) (.pair .str (.pair (.slice (.pair (.int .i64) (.pair (.int .i64) (.pair (.int .i64) (.pair (.int .i64) (.pair (.int .i64) .str)))))) (.pair .bool (.pair (.slice (.int .i64)) .bool)))))) x2]⟩
theorem w99_L0 {x0 : List (Int × Int × ByteArray × List (Int × Int × Int × Int × Int × ByteArray) × Bool × List Int × Bool)} {x1 : Int} {x2 : List (Int × Int × ByteArray × List (Int × Int × Int × Int × Int × ByteArray) × Bool × List Int × Bool)} {r : List (Int × Int × ByteArray × List (Int × Int × Int × Int × Int × ByteArray) × Bool × List Int × Bool)} (h : t99_L0 F118  W99_L0 x0 x1 x2 = some r) : W99_L0 x0 x1 x2 = some r := loop_step ((h99_L0 (calL fns prims) G99_L0 x0 x1 x2).trans h)
theorem f99 {x0 : List (Int × Int × ByteArray × List (Int × Int × Int × Int × Int × ByteArray) × Bool × List Int × Bool)} {r : List (Int × Int × ByteArray × List (Int × Int × Int × Int × Int × ByteArray) × Bool × List Int × Bool)} (h : t99 F118 W99_L0 x0 = some r) : F99 x0 = some r := call_typed (fn := a99) rfl ⟨rfl, rfl⟩ ((h99 (calL fns prims) x0).trans h)

noncomputable def G100_L0 (s : St) : Option (RT (AFn.outs a100)) := e100_L0 (calL fns prims)  s
noncomputable def W100_L0 (x0 : List (Int × Int × Int × Int × Int × ByteArray)) (x1 : Int) (x2 : List (Int × Int × Int × Int × Int × ByteArray)) : Option (List (Int × Int × Int × Int × Int × ByteArray)) := G100_L0 ⟨[(0, .lst (.pair (.int .i64) (.pair (.int .i64) (.pair (.int .i64) (.pair (.int .i64) (.pair (.int .i64) .str))))) x0), (3, .row 0), (4, .int .i64 x1)], [.rows 73 (.pair (.int .i64) (.pair (.int .i64) (.pair (.int .i64) (.pair (.int .i64) (.pair (.int .i64) .str))))) x2]⟩
theorem w100_L0 {x0 : List (Int × Int × Int × Int × Int × ByteArray)} {x1 : Int} {x2 : List (Int × Int × Int × Int × Int × ByteArray)} {r : List (Int × Int × Int × Int × Int × ByteArray)} (h : t100_L0 F119  W100_L0 x0 x1 x2 = some r) : W100_L0 x0 x1 x2 = some r := loop_step ((h100_L0 (calL fns prims) G100_L0 x0 x1 x2).trans h)
theorem f100 {x0 : List (Int × Int × Int × Int × Int × ByteArray)} {r : List (Int × Int × Int × Int × Int × ByteArray)} (h : t100 F119 W100_L0 x0 = some r) : F100 x0 = some r := call_typed (fn := a100) rfl ⟨rfl, rfl⟩ ((h100 (calL fns prims) x0).trans h)

noncomputable def G101_L0 (s : St) : Option (RT (AFn.outs a101)) := e101_L0 (calL fns prims)  s
noncomputable def W101_L0 (x0 : List ByteArray) (x1 : Int) (x2 : List ByteArray) : Option (List ByteArray) := G101_L0 ⟨[(0, .lst .str x0), (3, .row 0), (4, .int .i64 x1)], [.rows 9 .str x2]⟩
theorem w101_L0 {x0 : List ByteArray} {x1 : Int} {x2 : List ByteArray} {r : List ByteArray} (h : t101_L0   W101_L0 x0 x1 x2 = some r) : W101_L0 x0 x1 x2 = some r := loop_step ((h101_L0 (calL fns prims) G101_L0 x0 x1 x2).trans h)
theorem f101 {x0 : List ByteArray} {r : List ByteArray} (h : t101  W101_L0 x0 = some r) : F101 x0 = some r := call_typed (fn := a101) rfl ⟨rfl, rfl⟩ ((h101 (calL fns prims) x0).trans h)

noncomputable def G102_L0 (s : St) : Option (RT (AFn.outs a102)) := e102_L0 (calL fns prims)  s
noncomputable def W102_L0 (x0 : List (Int × Int × ByteArray)) (x1 : List (Int × Int × ByteArray)) (x2 : Int) : Option Bool := G102_L0 ⟨[(0, .lst (.pair (.int .i64) (.pair (.int .i64) .str)) x0), (1, .lst (.pair (.int .i64) (.pair (.int .i64) .str)) x1), (5, .int .i64 x2)], []⟩
theorem w102_L0 {x0 : List (Int × Int × ByteArray)} {x1 : List (Int × Int × ByteArray)} {x2 : Int} {r : Bool} (h : t102_L0 F120  W102_L0 x0 x1 x2 = some r) : W102_L0 x0 x1 x2 = some r := loop_step ((h102_L0 (calL fns prims) G102_L0 x0 x1 x2).trans h)
theorem f102 {x0 : List (Int × Int × ByteArray)} {x1 : List (Int × Int × ByteArray)} {r : Bool} (h : t102 F120 W102_L0 x0 x1 = some r) : F102 x0 x1 = some r := call_typed (fn := a102) rfl ⟨rfl, rfl⟩ ((h102 (calL fns prims) x0 x1).trans h)

noncomputable def G103_L0 (s : St) : Option (RT (AFn.outs a103)) := e103_L0 (calL fns prims)  s
noncomputable def W103_L0 (x0 : List (Int × Int × ByteArray × List (Int × Int × Int × Int × Int × ByteArray) × Bool × List Int × Bool)) (x1 : List (Int × Int × ByteArray × List (Int × Int × Int × Int × Int × ByteArray) × Bool × List Int × Bool)) (x2 : Int) : Option Bool := G103_L0 ⟨[(0, .lst (.pair (.int .i64) (.pair (.int .i64) (.pair .str (.pair (.slice (.pair (.int .i64) (.pair (.int .i64) (.pair (.int .i64) (.pair (.int .i64) (.pair (.int .i64) .str)))))) (.pair .bool (.pair (.slice (.int .i64)) .bool)))))) x0), (1, .lst (.pair (.int .i64) (.pair (.int .i64) (.pair .str (.pair (.slice (.pair (.int .i64) (.pair (.int .i64) (.pair (.int .i64) (.pair (.int .i64) (.pair (.int .i64) .str)))))) (.pair .bool (.pair (.slice (.int .i64)) .bool)))))) x1), (5, .int .i64 x2)], []⟩
theorem w103_L0 {x0 : List (Int × Int × ByteArray × List (Int × Int × Int × Int × Int × ByteArray) × Bool × List Int × Bool)} {x1 : List (Int × Int × ByteArray × List (Int × Int × Int × Int × Int × ByteArray) × Bool × List Int × Bool)} {x2 : Int} {r : Bool} (h : t103_L0 F121  W103_L0 x0 x1 x2 = some r) : W103_L0 x0 x1 x2 = some r := loop_step ((h103_L0 (calL fns prims) G103_L0 x0 x1 x2).trans h)
theorem f103 {x0 : List (Int × Int × ByteArray × List (Int × Int × Int × Int × Int × ByteArray) × Bool × List Int × Bool)} {x1 : List (Int × Int × ByteArray × List (Int × Int × Int × Int × Int × ByteArray) × Bool × List Int × Bool)} {r : Bool} (h : t103 F121 W103_L0 x0 x1 = some r) : F103 x0 x1 = some r := call_typed (fn := a103) rfl ⟨rfl, rfl⟩ ((h103 (calL fns prims) x0 x1).trans h)

noncomputable def G104_L0 (s : St) : Option (RT (AFn.outs a104)) := e104_L0 (calL fns prims)  s
noncomputable def W104_L0 (x0 : List (Int × Int × Int × Int × Int × ByteArray)) (x1 : List (Int × Int × Int × Int × Int × ByteArray)) (x2 : Int) : Option Bool := G104_L0 ⟨[(0, .lst (.pair (.int .i64) (.pair (.int .i64) (.pair (.int .i64) (.pair (.int .i64) (.pair (.int .i64) .str))))) x0), (1, .lst (.pair (.int .i64) (.pair (.int .i64) (.pair (.int .i64) (.pair (.int .i64) (.pair (.int .i64) .str))))) x1), (5, .int .i64 x2)], []⟩
theorem w104_L0 {x0 : List (Int × Int × Int × Int × Int × ByteArray)} {x1 : List (Int × Int × Int × Int × Int × ByteArray)} {x2 : Int} {r : Bool} (h : t104_L0 F122  W104_L0 x0 x1 x2 = some r) : W104_L0 x0 x1 x2 = some r := loop_step ((h104_L0 (calL fns prims) G104_L0 x0 x1 x2).trans h)
theorem f104 {x0 : List (Int × Int × Int × Int × Int × ByteArray)} {x1 : List (Int × Int × Int × Int × Int × ByteArray)} {r : Bool} (h : t104 F122 W104_L0 x0 x1 = some r) : F104 x0 x1 = some r := call_typed (fn := a104) rfl ⟨rfl, rfl⟩ ((h104 (calL fns prims) x0 x1).trans h)

noncomputable def G105_L0 (s : St) : Option (RT (AFn.outs a105)) := e105_L0 (calL fns prims)  s
noncomputable def W105_L0 (x0 : List ByteArray) (x1 : List ByteArray) (x2 : Int) : Option Bool := G105_L0 ⟨[(0, .lst .str x0), (1, .lst .str x1), (5, .int .i64 x2)], []⟩
theorem w105_L0 {x0 : List ByteArray} {x1 : List ByteArray} {x2 : Int} {r : Bool} (h : t105_L0   W105_L0 x0 x1 x2 = some r) : W105_L0 x0 x1 x2 = some r := loop_step ((h105_L0 (calL fns prims) G105_L0 x0 x1 x2).trans h)
theorem f105 {x0 : List ByteArray} {x1 : List ByteArray} {r : Bool} (h : t105  W105_L0 x0 x1 = some r) : F105 x0 x1 = some r := call_typed (fn := a105) rfl ⟨rfl, rfl⟩ ((h105 (calL fns prims) x0 x1).trans h)

theorem f106 {x1 : Int} {b0 : List Int × Int × Int} {r : Bool × List Int × Int × Int} (h : t106 F80  x1 b0 = some r) : F106 x1 b0 = some r := call_typed (fn := a106) rfl ⟨rfl, rfl⟩ ((h106 (calL fns prims) x1 b0).trans h)

theorem f107 {x1 : List Int} {b0 : List Int × Int × Int} {r : Int × List Int × Int × Int} (h : t107 F80  x1 b0 = some r) : F107 x1 b0 = some r := call_typed (fn := a107) rfl ⟨rfl, rfl⟩ ((h107 (calL fns prims) x1 b0).trans h)

noncomputable def G108_L0 (s : St) : Option (RT (AFn.outs a108)) := e108_L0 (calL fns prims)  s
noncomputable def W108_L0 (x0 : List Int) (x1 : Int) (x2 : Int) : Option Bool := G108_L0 ⟨[(0, .lst (.int .i64) x0), (1, .int .i64 x1), (5, .int .i64 x2)], []⟩
theorem w108_L0 {x0 : List Int} {x1 : Int} {x2 : Int} {r : Bool} (h : t108_L0   W108_L0 x0 x1 x2 = some r) : W108_L0 x0 x1 x2 = some r := loop_step ((h108_L0 (calL fns prims) G108_L0 x0 x1 x2).trans h)
theorem f108 {x0 : List Int} {x1 : Int} {r : Bool} (h : t108  W108_L0 x0 x1 = some r) : F108 x0 x1 = some r := call_typed (fn := a108) rfl ⟨rfl, rfl⟩ ((h108 (calL fns prims) x0 x1).trans h)

theorem f109 {b0 : List Int × Int × Int} {r : Int × List Int × Int × Int} (h : t109   b0 = some r) : F109 b0 = some r := call_typed (fn := a109) rfl ⟨rfl, rfl⟩ ((h109 (calL fns prims) b0).trans h)

theorem f114 {x0 : Int × Int × ByteArray} {x1 : Int} {r : Int} (h : t114   x0 x1 = some r) : F114 x0 x1 = some r := call_typed (fn := a114) rfl ⟨rfl, rfl⟩ ((h114 (calL fns prims) x0 x1).trans h)

theorem f115 {x0 : Int × Int × ByteArray × List (Int × Int × Int × Int × Int × ByteArray) × Bool × List Int × Bool} {x1 : Int} {r : Int} (h : t115 F75 F96  x0 x1 = some r) : F115 x0 x1 = some r := call_typed (fn := a115) rfl ⟨rfl, rfl⟩ ((h115 (calL fns prims) x0 x1).trans h)

theorem f116 {x0 : Int × Int × Int × Int × Int × ByteArray} {x1 : Int} {r : Int} (h : t116   x0 x1 = some r) : F116 x0 x1 = some r := call_typed (fn := a116) rfl ⟨rfl, rfl⟩ ((h116 (calL fns prims) x0 x1).trans h)

theorem f117 {x0 : Int × Int × ByteArray} {r : Int × Int × ByteArray} (h : t117   x0 = some r) : F117 x0 = some r := call_typed (fn := a117) rfl ⟨rfl, rfl⟩ ((h117 (calL fns prims) x0).trans h)

theorem f118 {x0 : Int × Int × ByteArray × List (Int × Int × Int × Int × Int × ByteArray) × Bool × List Int × Bool} {r : Int × Int × ByteArray × List (Int × Int × Int × Int × Int × ByteArray) × Bool × List Int × Bool} (h : t118 F77 F100  x0 = some r) : F118 x0 = some r := call_typed (fn := a118) rfl ⟨rfl, rfl⟩ ((h118 (calL fns prims) x0).trans h)

theorem f119 {x0 : Int × Int × Int × Int × Int × ByteArray} {r : Int × Int × Int × Int × Int × ByteArray} (h : t119   x0 = some r) : F119 x0 = some r := call_typed (fn := a119) rfl ⟨rfl, rfl⟩ ((h119 (calL fns prims) x0).trans h)

theorem f120 {x0 : Int × Int × ByteArray} {x1 : Int × Int × ByteArray} {r : Bool} (h : t120   x0 x1 = some r) : F120 x0 x1 = some r := call_typed (fn := a120) rfl ⟨rfl, rfl⟩ ((h120 (calL fns prims) x0 x1).trans h)

theorem f121 {x0 : Int × Int × ByteArray × List (Int × Int × Int × Int × Int × ByteArray) × Bool × List Int × Bool} {x1 : Int × Int × ByteArray × List (Int × Int × Int × Int × Int × ByteArray) × Bool × List Int × Bool} {r : Bool} (h : t121 F79 F104  x0 x1 = some r) : F121 x0 x1 = some r := call_typed (fn := a121) rfl ⟨rfl, rfl⟩ ((h121 (calL fns prims) x0 x1).trans h)

theorem f122 {x0 : Int × Int × Int × Int × Int × ByteArray} {x1 : Int × Int × Int × Int × Int × ByteArray} {r : Bool} (h : t122   x0 x1 = some r) : F122 x0 x1 = some r := call_typed (fn := a122) rfl ⟨rfl, rfl⟩ ((h122 (calL fns prims) x0 x1).trans h)
end Go.Proofs.Ytlegaocnobapgaa.Core
