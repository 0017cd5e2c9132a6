/- Shadow functions of ref3, written by tr.py. -/
import Derived.Test.YtnemobbnlacmjaaDoorShBa
namespace Go.Sh
/-- spindle/spindleref3.wide -/
def F8_spindleref3_wide : SFn := ⟨1, true, true, [.tmp 2],
  .seq
   (.region [⟨some 2, none, .mov (.c (.d (.b false)))⟩] false [])
   (.keep [0] (.seq
   (.region [⟨some 3, none, .mov (.t 0)⟩,
    ⟨some 4, none, .bin .eql (.t 3) (.c (.d (.i .i64 24)))⟩,
    ⟨some 2, none, .mov (.t 4)⟩] false [])
   (.ret)))⟩

def F213_spindleref3_Decode_b0 : SCode :=
  .seq
      (.seq
      (.region [⟨some 10, none, .mov (.t 6)⟩,
       ⟨some 11, none, .bin .mul (.c (.d (.i .i64 8))) (.t 10)⟩,
       ⟨some 12, none, .mov (.t 0)⟩,
       ⟨some 13, none, .len false (.t 12)⟩,
       ⟨some 14, none, .bin .lss (.t 11) (.t 13)⟩] false [])
      (.keep [0, 5, 6, 14] (.cond (.t 14)
       (.skip)
       (.exit 0))))
      (.keep [0, 5, 6] (.block 1 (.seq
       (.region [⟨some 16, none, .mov (.t 0)⟩,
        ⟨some 17, none, .mov (.t 6)⟩,
        ⟨some 18, none, .call 216 [.t 16, .t 17]⟩,
        ⟨some 15, none, .mov (.t 18)⟩,
        ⟨some 19, none, .extract 0 (.t 15)⟩,
        ⟨some 20, none, .extract 1 (.t 15)⟩,
        ⟨some 21, none, .extract 2 (.t 15)⟩,
        ⟨some 7, none, .alloc [.i .i64 0, .i .i64 0, .i .i64 0, .i .i64 0, .i .i64 0]⟩,
        ⟨none, none, .store 5 (.t 7) (.t 19)⟩,
        ⟨some 8, none, .mov (.t 20)⟩,
        ⟨some 9, none, .mov (.t 21)⟩] false [])
       (.keep [0, 5, 6, 7, 8, 9] (.seq
       (.seq
        (.region [⟨some 22, none, .mov (.t 9)⟩,
         ⟨some 23, none, .bin .neq (.t 22) (.c (.d (.i .i64 0)))⟩] false [])
        (.keep [0, 5, 6, 7, 8, 9, 23] (.cond (.t 23)
        (.keep [6, 9] (.seq
         (.region [⟨some 24, none, .mov (.t 6)⟩,
          ⟨some 25, none, .mov (.t 9)⟩,
          ⟨some 2, none, .mov (.c (.d (.sl 0 false [])))⟩,
          ⟨some 3, none, .mov (.t 24)⟩,
          ⟨some 4, none, .mov (.t 25)⟩] false [])
         (.ret)))
        (.skip))))
       (.keep [0, 5, 6, 7, 8] (.seq
        (.region [⟨some 26, none, .mov (.t 5)⟩,
         ⟨some 27, none, .load 5 true (.t 7)⟩,
         ⟨some 28, none, .lits 1 [.i .i64 0, .i .i64 0, .i .i64 0, .i .i64 0, .i .i64 0] [(0, 5, .t 27)]⟩,
         ⟨some 29, none, .app 5 40 (.t 26) (.t 28)⟩,
         ⟨some 5, none, .mov (.t 29)⟩] false [])
        (.keep [0, 5, 6, 8] (.region [⟨some 30, none, .mov (.t 6)⟩,
         ⟨some 31, none, .mov (.t 8)⟩,
         ⟨some 32, none, .bin .add (.t 30) (.t 31)⟩,
         ⟨some 6, none, .mov (.t 32)⟩] false [])))))))))
/-- spindle/spindleref3.Decode -/
def F213_spindleref3_Decode : SFn := ⟨1, true, true, [.tmp 2, .tmp 3, .tmp 4],
  .seq
   (.region [⟨some 2, none, .mov (.c (.d (.sl 0 false [])))⟩,
    ⟨some 3, none, .mov (.c (.d (.i .i64 0)))⟩,
    ⟨some 4, none, .mov (.c (.d (.i .i64 0)))⟩] false [])
   (.keep [0] (.seq
   (.region [⟨some 5, none, .tok 5 (.c (.d (.sl 0 false [])))⟩] false [])
   (.keep [0, 5] (.seq
    (.region [⟨some 6, none, .mov (.c (.d (.i .i64 0)))⟩] false [])
    (.keep [0, 5, 6] (.seq
    (.block 0 (.loop [0, 5, 6] false F213_spindleref3_Decode_b0))
    (.keep [5] (.seq
     (.region [⟨some 33, none, .mov (.t 5)⟩,
      ⟨some 2, none, .mov (.t 33)⟩,
      ⟨some 3, none, .mov (.c (.d (.i .i64 0)))⟩,
      ⟨some 4, none, .mov (.c (.d (.i .i64 0)))⟩] false [])
     (.ret)))))))))⟩

/-- spindle/spindleref3.One -/
def F216_spindleref3_One : SFn := ⟨2, true, true, [.cell 4 5 true, .tmp 5, .tmp 6],
  .seq
   (.region [⟨some 4, none, .alloc [.i .i64 0, .i .i64 0, .i .i64 0, .i .i64 0, .i .i64 0]⟩,
    ⟨some 5, none, .mov (.c (.d (.i .i64 0)))⟩,
    ⟨some 6, none, .mov (.c (.d (.i .i64 0)))⟩] false [])
   (.keep [0, 1, 4] (.seq
   (.region [⟨some 11, none, .mov (.t 1)⟩,
    ⟨some 12, none, .bin .mul (.c (.d (.i .i64 8))) (.t 11)⟩,
    ⟨some 7, none, .mov (.t 12)⟩] false [])
   (.keep [0, 4, 7] (.seq
    (.region [⟨some 13, none, .mov (.t 0)⟩,
     ⟨some 14, none, .len false (.t 13)⟩,
     ⟨some 15, none, .mov (.t 7)⟩,
     ⟨some 16, none, .bin .sub (.t 14) (.t 15)⟩,
     ⟨some 8, none, .mov (.t 16)⟩] false [])
    (.keep [0, 4, 7, 8] (.seq
    (.seq
     (.region [⟨some 17, none, .mov (.t 8)⟩,
      ⟨some 18, none, .bin .lss (.t 17) (.c (.d (.i .i64 8)))⟩,
      ⟨some 19, none, .mov (.t 18)⟩,
      ⟨some 20, (some (2, false)), .mov (.t 0)⟩,
      ⟨some 21, (some (2, false)), .mov (.t 7)⟩,
      ⟨some 22, (some (2, false)), .iaddr 1 (.t 20) (.t 21)⟩,
      ⟨some 23, (some (2, false)), .load 1 false (.t 22)⟩,
      ⟨some 24, (some (2, false)), .conv .i64 (.t 23)⟩,
      ⟨some 25, (some (2, false)), .call 8 [.t 24]⟩,
      ⟨some 26, (some (2, false)), .mov (.t 25)⟩,
      ⟨some 27, (some (9, true)), .mov (.t 8)⟩,
      ⟨some 28, (some (9, true)), .bin .lss (.t 27) (.c (.d (.i .i64 16)))⟩,
      ⟨some 29, (some (2, false)), .pick (.t 26) (.t 28) (.c (.d (.b false)))⟩,
      ⟨some 30, none, .pick (.t 19) (.c (.d (.b true))) (.t 29)⟩] false [])
     (.keep [0, 4, 7, 30] (.cond (.t 30)
     (.keep [4] (.seq
      (.region [⟨some 31, none, .build [.i .i64 0, .i .i64 0, .i .i64 0, .i .i64 0, .i .i64 0] []⟩,
       ⟨none, none, .store 5 (.t 4) (.t 31)⟩,
       ⟨some 5, none, .mov (.c (.d (.i .i64 0)))⟩,
       ⟨some 6, none, .mov (.c (.d (.i .i64 30)))⟩] false [])
      (.ret)))
     (.skip))))
    (.keep [0, 4, 7] (.seq
     (.region [⟨some 32, none, .mov (.t 0)⟩,
      ⟨some 33, none, .mov (.t 7)⟩,
      ⟨some 34, none, .iaddr 1 (.t 32) (.t 33)⟩,
      ⟨some 35, none, .load 1 false (.t 34)⟩,
      ⟨some 36, none, .conv .i64 (.t 35)⟩,
      ⟨some 37, none, .mov (.t 0)⟩,
      ⟨some 38, none, .mov (.t 7)⟩,
      ⟨some 39, none, .bin .add (.t 38) (.c (.d (.i .i64 1)))⟩,
      ⟨some 40, none, .iaddr 1 (.t 37) (.t 39)⟩,
      ⟨some 41, none, .load 1 false (.t 40)⟩,
      ⟨some 42, none, .conv .i64 (.t 41)⟩,
      ⟨some 43, none, .bin .rem (.t 42) (.c (.d (.i .i64 16)))⟩,
      ⟨some 44, none, .mov (.t 0)⟩,
      ⟨some 45, none, .mov (.t 7)⟩,
      ⟨some 46, none, .bin .add (.t 45) (.c (.d (.i .i64 1)))⟩,
      ⟨some 47, none, .iaddr 1 (.t 44) (.t 46)⟩,
      ⟨some 48, none, .load 1 false (.t 47)⟩,
      ⟨some 49, none, .conv .i64 (.t 48)⟩,
      ⟨some 50, none, .bin .quo (.t 49) (.c (.d (.i .i64 16)))⟩,
      ⟨some 51, none, .mov (.t 0)⟩,
      ⟨some 52, none, .mov (.t 7)⟩,
      ⟨some 53, none, .bin .add (.t 52) (.c (.d (.i .i64 2)))⟩,
      ⟨some 54, none, .call 220 [.t 51, .t 53, .c (.d (.i .i64 2)), .c (.d (.b true))]⟩,
      ⟨some 55, none, .mov (.t 0)⟩,
      ⟨some 56, none, .mov (.t 7)⟩,
      ⟨some 57, none, .bin .add (.t 56) (.c (.d (.i .i64 4)))⟩,
      ⟨some 58, none, .call 220 [.t 55, .t 57, .c (.d (.i .i64 4)), .c (.d (.b true))]⟩,
      ⟨some 59, none, .build [.i .i64 0, .i .i64 0, .i .i64 0, .i .i64 0, .i .i64 0] [(0, 1, .t 36), (1, 1, .t 43), (2, 1, .t 50), (3, 1, .t 54), (4, 1, .t 58)]⟩,
      ⟨some 9, none, .alloc [.i .i64 0, .i .i64 0, .i .i64 0, .i .i64 0, .i .i64 0]⟩,
      ⟨none, none, .store 5 (.t 9) (.t 59)⟩] true [0, 0, 3, 7, 15, 0, 0, 64, 224, 480, 992, 2016, 0, 0, 8192, 28672, 61440, 126976, 258048, 0, 0, 1048576, 3670016, 0, 0, 16777216, 66584576, 134217727, 0, 536870911])
     (.keep [0, 4, 7, 9] (.seq
     (.region [⟨some 10, none, .mov (.c (.d (.i .i64 1)))⟩] false [])
     (.keep [0, 4, 7, 9, 10] (.seq
      (.seq
      (.region [⟨some 60, none, .faddr 0 (.t 9)⟩,
       ⟨some 61, none, .load 1 false (.t 60)⟩,
       ⟨some 62, none, .call 8 [.t 61]⟩] false [])
      (.keep [0, 4, 7, 9, 10, 62] (.cond (.t 62)
       (.keep [0, 4, 7, 9] (.seq
       (.region [⟨some 10, none, .mov (.c (.d (.i .i64 2)))⟩] false [])
       (.keep [0, 4, 7, 9, 10] (.seq
        (.region [⟨some 63, none, .mov (.t 0)⟩,
         ⟨some 64, none, .mov (.t 7)⟩,
         ⟨some 65, none, .bin .add (.t 64) (.c (.d (.i .i64 4)))⟩,
         ⟨some 66, none, .call 220 [.t 63, .t 65, .c (.d (.i .i64 4)), .c (.d (.b false))]⟩,
         ⟨some 67, none, .mov (.t 0)⟩,
         ⟨some 68, none, .mov (.t 7)⟩,
         ⟨some 69, none, .bin .add (.t 68) (.c (.d (.i .i64 12)))⟩,
         ⟨some 70, none, .call 220 [.t 67, .t 69, .c (.d (.i .i64 4)), .c (.d (.b true))]⟩,
         ⟨some 71, none, .bin .shl (.t 70) (.c (.d (.i .u64 32)))⟩,
         ⟨some 72, none, .bin .add (.t 66) (.t 71)⟩,
         ⟨some 73, none, .faddr 4 (.t 9)⟩,
         ⟨none, none, .store 1 (.t 73) (.t 72)⟩] false [])
        (.keep [0, 4, 7, 9, 10] (.seq
        (.region [⟨some 74, none, .mov (.t 0)⟩,
         ⟨some 75, none, .mov (.t 7)⟩,
         ⟨some 76, none, .bin .add (.t 75) (.c (.d (.i .i64 8)))⟩,
         ⟨some 77, none, .call 220 [.t 74, .t 76, .c (.d (.i .i64 4)), .c (.d (.b false))]⟩,
         ⟨some 78, none, .bin .neq (.t 77) (.c (.d (.i .i64 0)))⟩] false [])
        (.keep [4, 9, 10, 78] (.cond (.t 78)
         (.keep [4] (.seq
         (.region [⟨some 79, none, .build [.i .i64 0, .i .i64 0, .i .i64 0, .i .i64 0, .i .i64 0] []⟩,
          ⟨none, none, .store 5 (.t 4) (.t 79)⟩,
          ⟨some 5, none, .mov (.c (.d (.i .i64 0)))⟩,
          ⟨some 6, none, .mov (.c (.d (.i .i64 31)))⟩] false [])
         (.ret)))
         (.skip)))))))))
       (.skip))))
      (.keep [4, 9, 10] (.seq
      (.seq
       (.region [⟨some 80, none, .load 5 true (.t 9)⟩,
        ⟨some 81, none, .call 65 [.t 80]⟩,
        ⟨some 82, none, .bin .neq (.t 81) (.c (.d (.i .i64 0)))⟩] false [])
       (.keep [4, 9, 10, 82] (.cond (.t 82)
       (.keep [4] (.seq
        (.region [⟨some 83, none, .build [.i .i64 0, .i .i64 0, .i .i64 0, .i .i64 0, .i .i64 0] []⟩,
         ⟨none, none, .store 5 (.t 4) (.t 83)⟩,
         ⟨some 5, none, .mov (.c (.d (.i .i64 0)))⟩,
         ⟨some 6, none, .mov (.c (.d (.i .i64 32)))⟩] false [])
        (.ret)))
       (.skip))))
      (.keep [4, 9, 10] (.seq
       (.region [⟨some 84, none, .load 5 true (.t 9)⟩,
        ⟨some 85, none, .mov (.t 10)⟩,
        ⟨none, none, .store 5 (.t 4) (.t 84)⟩,
        ⟨some 5, none, .mov (.t 85)⟩,
        ⟨some 6, none, .mov (.c (.d (.i .i64 0)))⟩] false [])
       (.ret)))))))))))))))))⟩

def F220_spindleref3_value_b0 : SCode :=
  .seq
      (.seq
      (.region [⟨some 13, none, .mov (.t 10)⟩,
       ⟨some 14, none, .bin .geq (.t 13) (.c (.d (.i .i64 0)))⟩] false [])
      (.keep [0, 1, 2, 3, 9, 10, 14] (.cond (.t 14)
       (.skip)
       (.exit 0))))
      (.keep [0, 1, 2, 3, 9, 10] (.seq
      (.block 1 (.region [⟨some 17, none, .mov (.t 9)⟩,
        ⟨some 18, none, .bin .mul (.c (.d (.i .i64 256))) (.t 17)⟩,
        ⟨some 19, none, .mov (.t 0)⟩,
        ⟨some 20, none, .mov (.t 1)⟩,
        ⟨some 21, none, .mov (.t 10)⟩,
        ⟨some 22, none, .bin .add (.t 20) (.t 21)⟩,
        ⟨some 23, none, .iaddr 1 (.t 19) (.t 22)⟩,
        ⟨some 24, none, .load 1 false (.t 23)⟩,
        ⟨some 25, none, .conv .i64 (.t 24)⟩,
        ⟨some 26, none, .bin .add (.t 18) (.t 25)⟩,
        ⟨some 9, none, .mov (.t 26)⟩] false []))
      (.keep [0, 1, 2, 3, 9, 10] (.region [⟨some 15, none, .mov (.t 10)⟩,
       ⟨some 16, none, .bin .sub (.t 15) (.c (.d (.i .i64 1)))⟩,
       ⟨some 10, none, .mov (.t 16)⟩] false []))))
/-- spindle/spindleref3.value -/
def F220_spindleref3_value : SFn := ⟨4, true, true, [.tmp 8],
  .seq
   (.region [⟨some 8, none, .mov (.c (.d (.i .i64 0)))⟩] false [])
   (.keep [0, 1, 2, 3] (.seq
   (.region [⟨some 9, none, .mov (.c (.d (.i .i64 0)))⟩] false [])
   (.keep [0, 1, 2, 3, 9] (.seq
    (.seq
    (.region [⟨some 11, none, .mov (.t 2)⟩,
     ⟨some 12, none, .bin .sub (.t 11) (.c (.d (.i .i64 1)))⟩,
     ⟨some 10, none, .mov (.t 12)⟩] false [])
    (.keep [0, 1, 2, 3, 9, 10] (.block 0 (.loop [0, 1, 2, 3, 9, 10] false F220_spindleref3_value_b0))))
    (.keep [0, 1, 2, 3, 9] (.seq
    (.seq
     (.region [⟨some 27, none, .mov (.t 3)⟩,
      ⟨some 28, none, .mov (.t 27)⟩,
      ⟨some 29, (some (1, true)), .mov (.t 0)⟩,
      ⟨some 30, (some (1, true)), .mov (.t 1)⟩,
      ⟨some 31, (some (1, true)), .mov (.t 2)⟩,
      ⟨some 32, (some (1, true)), .bin .add (.t 30) (.t 31)⟩,
      ⟨some 33, (some (1, true)), .bin .sub (.t 32) (.c (.d (.i .i64 1)))⟩,
      ⟨some 34, (some (1, true)), .iaddr 1 (.t 29) (.t 33)⟩,
      ⟨some 35, (some (1, true)), .load 1 false (.t 34)⟩,
      ⟨some 36, (some (1, true)), .bin .geq (.t 35) (.c (.d (.i .u8 128)))⟩,
      ⟨some 37, none, .pick (.t 28) (.t 36) (.c (.d (.b false)))⟩] false [])
     (.keep [2, 9, 37] (.cond (.t 37)
     (.keep [2, 9] (.region [⟨some 38, none, .mov (.t 9)⟩,
      ⟨some 39, none, .mov (.t 2)⟩,
      ⟨some 40, none, .bin .mul (.c (.d (.i .i64 8))) (.t 39)⟩,
      ⟨some 41, none, .bin .shl (.c (.d (.i .i64 1))) (.t 40)⟩,
      ⟨some 42, none, .bin .sub (.t 38) (.t 41)⟩,
      ⟨some 9, none, .mov (.t 42)⟩] false []))
     (.skip))))
    (.keep [9] (.seq
     (.region [⟨some 43, none, .mov (.t 9)⟩,
      ⟨some 8, none, .mov (.t 43)⟩] false [])
     (.ret)))))))))⟩
end Go.Sh
