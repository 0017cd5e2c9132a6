/- Part of the proof. -/
import Derived.Test.YtidigkielipghaaGreatDoorShBa
namespace Go.Sh
def F0_b0:SCode:=
  .seq (.region [⟨some 11,none,.bin .lss (.t 10) (.t 9)⟩] false []) (.keep [3,8,9,10,11] (.seq (.cond (.t 11) .skip (.exit 0)) (.keep [3,8,9,10] (.seq (.block 1 (.seq (.region [⟨some 12,none,.iaddr 5 (.t 8) (.t 10)⟩,⟨some 13,none,.load 5 true (.t 12)⟩,⟨some 5,none,.alloc [.i .i64 0,.i .i64 0,.i .i64 0,.i .i64 0,.i .i64 0]⟩,⟨none,none,.store 5 (.t 5) (.t 13)⟩] false []) (.keep [3,5,8,9,10] (.seq (.region [⟨some 14,none,.faddr 0 (.t 5)⟩,⟨some 15,none,.load 1 false (.t 14)⟩,⟨some 16,none,.bin .eql (.t 15) (.c (.d (.i .i64 24)))⟩] false []) (.keep [3,8,9,10,16] (.cond (.t 16) (.keep [3,8,9,10] (.region [⟨some 17,none,.mov (.t 3)⟩,⟨some 18,none,.bin .add (.t 17) (.c (.d (.i .i64 1)))⟩,⟨some 3,none,.mov (.t 18)⟩] false [])) .skip)))))) (.keep [3,8,9,10] (.region [⟨some 19,none,.bin .add (.t 10) (.c (.d (.i .i64 1)))⟩,⟨some 10,none,.mov (.t 19)⟩] false []))))))
def F0:SFn:=⟨1,true,true,[.tmp 2],
  .seq (.region [⟨some 2,none,.mov (.c (.d (.i .i64 0)))⟩] false []) (.keep [0] (.seq (.region [⟨some 6,none,.mov (.t 0)⟩,⟨some 7,none,.len false (.t 6)⟩,⟨some 3,none,.mov (.t 7)⟩] false []) (.keep [0,3] (.seq (.seq (.region [⟨some 8,none,.mov (.t 0)⟩,⟨some 9,none,.len false (.t 8)⟩,⟨some 10,none,.mov (.c (.d (.i .i64 0)))⟩] false []) (.keep [3,8,9,10] (.block 0 (.loop [3,8,9,10] true F0_b0)))) (.keep [3] (.seq (.region [⟨some 20,none,.mov (.t 3)⟩,⟨some 2,none,.mov (.t 20)⟩] false []) .ret))))))⟩
end Go.Sh
