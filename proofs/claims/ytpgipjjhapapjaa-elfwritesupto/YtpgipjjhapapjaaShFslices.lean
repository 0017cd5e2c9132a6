/- Shadow functions of slices, written by tr.py. -/
import Derived.Test.YtpgipjjhapapjaaShBa
namespace Go.Sh
def F149_slices_BinarySearch_int_int_b0 : SCode :=
  .seq
      (.seq
      (.region [⟨some 13, none, .mov (.t 7)⟩,
       ⟨some 14, none, .mov (.t 8)⟩,
       ⟨some 15, none, .bin .lss (.t 13) (.t 14)⟩] false [])
      (.keep [0, 1, 6, 7, 8, 15] (.cond (.t 15)
       (.skip)
       (.exit 0))))
      (.keep [0, 1, 6, 7, 8] (.block 1 (.seq
       (.region [⟨some 16, none, .mov (.t 7)⟩,
        ⟨some 17, none, .mov (.t 8)⟩,
        ⟨some 18, none, .bin .add (.t 16) (.t 17)⟩,
        ⟨some 19, none, .conv .u64 (.t 18)⟩,
        ⟨some 20, none, .bin .shr (.t 19) (.c (.d (.i .u64 1)))⟩,
        ⟨some 21, none, .conv .i64 (.t 20)⟩,
        ⟨some 9, none, .mov (.t 21)⟩] false [])
       (.keep [0, 1, 6, 7, 8, 9] (.seq
       (.region [⟨some 22, none, .mov (.t 0)⟩,
        ⟨some 23, none, .mov (.t 9)⟩,
        ⟨some 24, none, .iaddr 1 (.t 22) (.t 23)⟩,
        ⟨some 25, none, .load 1 false (.t 24)⟩,
        ⟨some 26, none, .mov (.t 1)⟩,
        ⟨some 27, none, .call 105 [.t 25, .t 26]⟩] false [])
       (.keep [0, 1, 6, 7, 8, 9, 27] (.cond (.t 27)
        (.keep [0, 1, 6, 8, 9] (.region [⟨some 28, none, .mov (.t 9)⟩,
         ⟨some 29, none, .bin .add (.t 28) (.c (.d (.i .i64 1)))⟩,
         ⟨some 7, none, .mov (.t 29)⟩] false []))
        (.keep [0, 1, 6, 7, 9] (.region [⟨some 30, none, .mov (.t 9)⟩,
         ⟨some 8, none, .mov (.t 30)⟩] false [])))))))))
/-- slices.BinarySearch[[]int,int] -/
def F149_slices_BinarySearch_int_int : SFn := ⟨2, true, true, [.tmp 4, .tmp 5],
  .seq
   (.region [⟨some 4, none, .mov (.c (.d (.i .i64 0)))⟩,
    ⟨some 5, none, .mov (.c (.d (.b false)))⟩] false [])
   (.keep [0, 1] (.seq
   (.region [⟨some 10, none, .mov (.t 0)⟩,
    ⟨some 11, none, .len false (.t 10)⟩,
    ⟨some 6, none, .mov (.t 11)⟩] false [])
   (.keep [0, 1, 6] (.seq
    (.region [⟨some 12, none, .mov (.t 6)⟩,
     ⟨some 7, none, .mov (.c (.d (.i .i64 0)))⟩,
     ⟨some 8, none, .mov (.t 12)⟩] false [])
    (.keep [0, 1, 6, 7, 8] (.seq
    (.block 0 (.loop [0, 1, 6, 7, 8] false F149_slices_BinarySearch_int_int_b0))
    (.keep [0, 1, 6, 7] (.seq
     (.region [⟨some 31, none, .mov (.t 7)⟩,
      ⟨some 32, none, .mov (.t 7)⟩,
      ⟨some 33, none, .mov (.t 6)⟩,
      ⟨some 34, none, .bin .lss (.t 32) (.t 33)⟩,
      ⟨some 35, none, .mov (.t 34)⟩,
      ⟨some 36, (some (4, true)), .mov (.t 0)⟩,
      ⟨some 37, (some (4, true)), .mov (.t 7)⟩,
      ⟨some 38, (some (4, true)), .iaddr 1 (.t 36) (.t 37)⟩,
      ⟨some 39, (some (4, true)), .load 1 false (.t 38)⟩,
      ⟨some 40, (some (4, true)), .mov (.t 1)⟩,
      ⟨some 41, (some (4, true)), .bin .eql (.t 39) (.t 40)⟩,
      ⟨some 42, (some (4, true)), .mov (.t 41)⟩,
      ⟨some 43, (some (11, false)), .mov (.t 0)⟩,
      ⟨some 44, (some (11, false)), .mov (.t 7)⟩,
      ⟨some 45, (some (11, false)), .iaddr 1 (.t 43) (.t 44)⟩,
      ⟨some 46, (some (11, false)), .load 1 false (.t 45)⟩,
      ⟨some 47, (some (11, false)), .call 152 [.t 46]⟩,
      ⟨some 48, (some (11, false)), .mov (.t 47)⟩,
      ⟨some 49, (some (17, true)), .mov (.t 1)⟩,
      ⟨some 50, (some (17, true)), .call 152 [.t 49]⟩,
      ⟨some 51, (some (11, false)), .pick (.t 48) (.t 50) (.c (.d (.b false)))⟩,
      ⟨some 52, (some (4, true)), .pick (.t 42) (.c (.d (.b true))) (.t 51)⟩,
      ⟨some 53, none, .pick (.t 35) (.t 52) (.c (.d (.b false)))⟩,
      ⟨some 4, none, .mov (.t 31)⟩,
      ⟨some 5, none, .mov (.t 53)⟩] false [])
     (.ret)))))))))⟩

/-- slices.isNaN[int] -/
def F152_slices_isNaN_int : SFn := ⟨1, true, true, [.tmp 2],
  .seq
   (.region [⟨some 2, none, .mov (.c (.d (.b false)))⟩] false [])
   (.keep [0] (.seq
   (.region [⟨some 3, none, .mov (.t 0)⟩,
    ⟨some 4, none, .mov (.t 0)⟩,
    ⟨some 5, none, .bin .neq (.t 3) (.t 4)⟩,
    ⟨some 2, none, .mov (.t 5)⟩] false [])
   (.ret)))⟩

/-- slices.Clone[[]string,string] -/
def F173_slices_Clone_string_string : SFn := ⟨1, true, true, [.tmp 2],
  .seq
   (.region [⟨some 2, none, .mov (.c (.d (.sl 0 false [])))⟩] false [])
   (.keep [0] (.seq
   (.seq
    (.region [⟨some 3, none, .mov (.t 0)⟩,
     ⟨some 4, none, .eqv false [11] (.t 3) (.c (.d (.sl 0 false [])))⟩] false [])
    (.keep [0, 4] (.cond (.t 4)
    (.keep [] (.seq
     (.region [⟨some 2, none, .mov (.c (.d (.sl 0 false [])))⟩] false [])
     (.ret)))
    (.skip))))
   (.keep [0] (.seq
    (.region [⟨some 5, none, .litsO 0 [.s []] []⟩,
     ⟨some 6, none, .mov (.t 0)⟩,
     ⟨some 7, none, .app 1 16 (.t 5) (.t 6)⟩,
     ⟨some 2, none, .mov (.t 7)⟩] false [])
    (.ret)))))⟩

end Go.Sh
