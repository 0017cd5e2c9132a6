/- Shadow functions of ref2, written by tr.py. -/
import Derived.Test.YtnemobbnlacmjaaDoorShBa
namespace Go.Sh
def F15_spindleref2_Ops_b0 : SCode :=
  .seq
      (.seq
      (.region [⟨some 3, none, .mov (.t 2)⟩,
       ⟨some 4, none, .bin .lss (.t 3) (.c (.d (.i .i64 256)))⟩] false [])
      (.keep [1, 2, 4] (.cond (.t 4)
       (.skip)
       (.exit 0))))
      (.keep [1, 2] (.seq
      (.block 1 (.seq
       (.region [⟨some 7, none, .mov (.t 2)⟩,
        ⟨some 8, none, .call 17 [.t 7]⟩,
        ⟨some 9, none, .len false (.t 8)⟩,
        ⟨some 10, none, .bin .gtr (.t 9) (.c (.d (.i .i64 0)))⟩] false [])
       (.keep [1, 2, 10] (.cond (.t 10)
        (.keep [1, 2] (.region [⟨some 11, none, .mov (.t 1)⟩,
         ⟨some 12, none, .mov (.t 2)⟩,
         ⟨some 13, none, .lits 1 [.i .i64 0] [(0, 1, .t 12)]⟩,
         ⟨some 14, none, .app 1 8 (.t 11) (.t 13)⟩,
         ⟨some 1, none, .mov (.t 14)⟩] false []))
        (.skip)))))
      (.keep [1, 2] (.region [⟨some 5, none, .mov (.t 2)⟩,
       ⟨some 6, none, .bin .add (.t 5) (.c (.d (.i .i64 1)))⟩,
       ⟨some 2, none, .mov (.t 6)⟩] false []))))
/-- spindle/spindleref2.Ops -/
def F15_spindleref2_Ops : SFn := ⟨0, true, true, [.tmp 0],
  .seq
   (.region [⟨some 0, none, .mov (.c (.d (.sl 0 false [])))⟩] false [])
   (.keep [] (.seq
   (.region [⟨some 1, none, .mov (.c (.d (.sl 0 false [])))⟩] false [])
   (.keep [1] (.seq
    (.seq
    (.region [⟨some 2, none, .mov (.c (.d (.i .i64 0)))⟩] false [])
    (.keep [1, 2] (.block 0 (.loop [1, 2] false F15_spindleref2_Ops_b0))))
    (.keep [1] (.seq
    (.region [⟨some 15, none, .mov (.t 1)⟩,
     ⟨some 0, none, .mov (.t 15)⟩] false [])
    (.ret)))))))⟩

/-- spindle/spindleref2.Rows -/
def F17_spindleref2_Rows : SFn := ⟨1, true, true, [.tmp 2],
  .seq
   (.region [⟨some 2, none, .mov (.c (.d (.sl 0 false [])))⟩] false [])
   (.keep [0] (.seq
   (.seq
    (.region [⟨some 6, none, .mov (.t 0)⟩,
     ⟨some 7, none, .bin .lss (.t 6) (.c (.d (.i .i64 0)))⟩,
     ⟨some 8, none, .mov (.t 7)⟩,
     ⟨some 9, (some (2, false)), .mov (.t 0)⟩,
     ⟨some 10, (some (2, false)), .bin .gtr (.t 9) (.c (.d (.i .i64 255)))⟩,
     ⟨some 11, none, .pick (.t 8) (.c (.d (.b true))) (.t 10)⟩] false [])
    (.keep [0, 11] (.cond (.t 11)
    (.keep [] (.seq
     (.region [⟨some 2, none, .mov (.c (.d (.sl 0 false [])))⟩] false [])
     (.ret)))
    (.skip))))
   (.keep [0] (.seq
    (.region [⟨some 12, none, .mov (.t 0)⟩,
     ⟨some 13, none, .bin .rem (.t 12) (.c (.d (.i .i64 8)))⟩,
     ⟨some 3, none, .mov (.t 13)⟩] false [])
    (.keep [0, 3] (.seq
    (.region [⟨some 14, none, .mov (.t 0)⟩,
     ⟨some 15, none, .bin .quo (.t 14) (.c (.d (.i .i64 16)))⟩,
     ⟨some 16, none, .bin .mul (.t 15) (.c (.d (.i .i64 16)))⟩,
     ⟨some 4, none, .mov (.t 16)⟩] false [])
    (.keep [0, 3, 4] (.seq
     (.region [⟨some 17, none, .mov (.t 0)⟩,
      ⟨some 18, none, .bin .quo (.t 17) (.c (.d (.i .i64 8)))⟩,
      ⟨some 19, none, .bin .rem (.t 18) (.c (.d (.i .i64 2)))⟩,
      ⟨some 20, none, .bin .eql (.t 19) (.c (.d (.i .i64 1)))⟩,
      ⟨some 5, none, .mov (.t 20)⟩] false [])
     (.keep [0, 3, 4, 5] (.seq
     (.block 0 (.seq
      (.region [⟨some 22, none, .mov (.t 3)⟩,
       ⟨some 23, none, .bin .eql (.t 22) (.c (.d (.i .i64 4)))⟩,
       ⟨some 24, none, .mov (.t 23)⟩,
       ⟨some 25, (some (2, false)), .mov (.t 3)⟩,
       ⟨some 26, (some (2, false)), .bin .eql (.t 25) (.c (.d (.i .i64 7)))⟩,
       ⟨some 27, none, .pick (.t 24) (.c (.d (.b true))) (.t 26)⟩,
       ⟨some 21, none, .mov (.t 27)⟩] false [])
      (.keep [0, 3, 4, 5, 21] (.cond (.t 21)
       (.keep [3, 4, 5] (.seq
       (.region [⟨some 28, none, .mov (.t 3)⟩,
        ⟨some 29, none, .mov (.t 4)⟩,
        ⟨some 30, none, .mov (.t 5)⟩,
        ⟨some 31, none, .call 19 [.t 28, .t 29, .t 30]⟩,
        ⟨some 2, none, .mov (.t 31)⟩] false [])
       (.ret)))
       (.keep [0, 3, 4, 5] (.seq
       (.region [⟨some 33, none, .mov (.t 3)⟩,
        ⟨some 34, none, .bin .eql (.t 33) (.c (.d (.i .i64 5)))⟩,
        ⟨some 35, none, .mov (.t 34)⟩,
        ⟨some 36, (some (2, false)), .mov (.t 3)⟩,
        ⟨some 37, (some (2, false)), .bin .eql (.t 36) (.c (.d (.i .i64 6)))⟩,
        ⟨some 38, none, .pick (.t 35) (.c (.d (.b true))) (.t 37)⟩,
        ⟨some 32, none, .mov (.t 38)⟩] false [])
       (.keep [0, 3, 4, 5, 32] (.cond (.t 32)
        (.keep [3, 4, 5] (.seq
        (.region [⟨some 39, none, .mov (.t 3)⟩,
         ⟨some 40, none, .mov (.t 4)⟩,
         ⟨some 41, none, .mov (.t 5)⟩,
         ⟨some 42, none, .call 20 [.t 39, .t 40, .t 41]⟩,
         ⟨some 2, none, .mov (.t 42)⟩] false [])
        (.ret)))
        (.skip)))))))))
     (.keep [0] (.seq
      (.region [⟨some 43, none, .mov (.t 0)⟩,
       ⟨some 44, none, .call 21 [.t 43]⟩,
       ⟨some 2, none, .mov (.t 44)⟩] false [])
      (.ret)))))))))))))⟩

def F19_spindleref2_arithmetic_b0 : SCode :=
  .seq
         (.seq
          (.region [⟨some 62, none, .mov (.t 10)⟩,
           ⟨some 63, none, .bin .leq (.t 62) (.c (.d (.i .i64 32)))⟩,
           ⟨some 64, none, .mov (.t 63)⟩,
           ⟨some 65, (some (2, true)), .mov (.t 1)⟩,
           ⟨some 66, (some (2, true)), .bin .eql (.t 65) (.c (.d (.i .i64 176)))⟩,
           ⟨some 67, none, .pick (.t 64) (.t 66) (.c (.d (.b false)))⟩,
           ⟨some 68, none, .mov (.t 67)⟩,
           ⟨some 69, (some (6, true)), .mov (.t 2)⟩,
           ⟨some 70, none, .pick (.t 68) (.t 69) (.c (.d (.b false)))⟩] false [])
          (.keep [0, 1, 2, 7, 9, 10, 70] (.cond (.t 70)
          (.skip)
          (.exit 0))))
         (.keep [0, 1, 2, 7, 9, 10] (.seq
          (.block 1 (.seq
           (.region [⟨some 73, none, .mov (.t 10)⟩,
            ⟨some 74, none, .faddr 8 (.t 7)⟩,
            ⟨none, none, .store 1 (.t 74) (.t 73)⟩] false [])
           (.keep [0, 1, 2, 7, 9, 10] (.seq
           (.region [⟨some 75, none, .mov (.t 10)⟩,
            ⟨some 76, none, .bin .lss (.t 75) (.c (.d (.i .i64 32)))⟩,
            ⟨some 77, none, .mov (.t 76)⟩,
            ⟨some 78, (some (2, false)), .mov (.t 0)⟩,
            ⟨some 79, (some (2, false)), .bin .eql (.t 78) (.c (.d (.i .i64 7)))⟩,
            ⟨some 80, none, .pick (.t 77) (.c (.d (.b true))) (.t 79)⟩] false [])
           (.keep [0, 1, 2, 7, 9, 10, 80] (.cond (.t 80)
            (.keep [0, 1, 2, 7, 9, 10] (.region [⟨some 81, none, .mov (.t 9)⟩,
             ⟨some 82, none, .load 10 true (.t 7)⟩,
             ⟨some 83, none, .lits 1 [.i .i64 0, .i .i64 0, .b false, .b false, .b false, .b false, .b false, .i .i64 0, .i .i64 0, .sl 0 false []] [(0, 10, .t 82)]⟩,
             ⟨some 84, none, .app 10 64 (.t 81) (.t 83)⟩,
             ⟨some 9, none, .mov (.t 84)⟩] false []))
            (.skip)))))))
          (.keep [0, 1, 2, 7, 9, 10] (.region [⟨some 71, none, .mov (.t 10)⟩,
           ⟨some 72, none, .bin .mul (.c (.d (.i .i64 2))) (.t 71)⟩,
           ⟨some 10, none, .mov (.t 72)⟩] false []))))
/-- spindle/spindleref2.arithmetic -/
def F19_spindleref2_arithmetic : SFn := ⟨3, true, true, [.tmp 6],
  .seq
   (.region [⟨some 6, none, .mov (.c (.d (.sl 0 false [])))⟩] false [])
   (.keep [0, 1, 2] (.seq
   (.seq
    (.region [⟨some 11, none, .mov (.t 1)⟩,
     ⟨some 12, none, .bin .eql (.t 11) (.c (.d (.i .i64 128)))⟩,
     ⟨some 13, none, .mov (.t 12)⟩,
     ⟨some 14, (some (2, true)), .mov (.t 2)⟩,
     ⟨some 15, (some (2, true)), .un .not (.t 14)⟩,
     ⟨some 16, none, .pick (.t 13) (.t 15) (.c (.d (.b false)))⟩] false [])
    (.keep [0, 1, 2, 16] (.cond (.t 16)
    (.keep [] (.seq
     (.region [⟨some 17, none, .build [.i .i64 0, .i .i64 0, .b false, .b false, .b false, .b false, .b false, .i .i64 0, .i .i64 0, .sl 0 false []] [(0, 1, .c (.d (.i .i64 2))), (1, 1, .c (.d (.i .i64 1))), (2, 1, .c (.d (.b true)))]⟩,
      ⟨some 18, none, .lits 1 [.i .i64 0, .i .i64 0, .b false, .b false, .b false, .b false, .b false, .i .i64 0, .i .i64 0, .sl 0 false []] [(0, 10, .t 17)]⟩,
      ⟨some 6, none, .mov (.t 18)⟩] false [])
     (.ret)))
    (.skip))))
   (.keep [0, 1, 2] (.seq
    (.seq
    (.region [⟨some 19, none, .mov (.t 1)⟩,
     ⟨some 20, none, .bin .eql (.t 19) (.c (.d (.i .i64 208)))⟩,
     ⟨some 21, none, .mov (.t 20)⟩,
     ⟨some 22, (some (2, true)), .mov (.t 0)⟩,
     ⟨some 23, (some (2, true)), .bin .eql (.t 22) (.c (.d (.i .i64 4)))⟩,
     ⟨some 24, (some (2, true)), .mov (.t 23)⟩,
     ⟨some 25, (some (5, false)), .mov (.t 2)⟩,
     ⟨some 26, (some (5, false)), .un .not (.t 25)⟩,
     ⟨some 27, (some (2, true)), .pick (.t 24) (.c (.d (.b true))) (.t 26)⟩,
     ⟨some 28, none, .pick (.t 21) (.t 27) (.c (.d (.b false)))⟩] false [])
    (.keep [0, 1, 2, 28] (.cond (.t 28)
     (.keep [] (.seq
     (.region [⟨some 29, none, .lits 3 [.i .i64 0] [(0, 1, .c (.d (.i .i64 16))), (1, 1, .c (.d (.i .i64 32))), (2, 1, .c (.d (.i .i64 64)))]⟩,
      ⟨some 30, none, .build [.i .i64 0, .i .i64 0, .b false, .b false, .b false, .b false, .b false, .i .i64 0, .i .i64 0, .sl 0 false []] [(0, 1, .c (.d (.i .i64 2))), (1, 1, .c (.d (.i .i64 1))), (2, 1, .c (.d (.b true))), (9, 1, .t 29)]⟩,
      ⟨some 31, none, .lits 1 [.i .i64 0, .i .i64 0, .b false, .b false, .b false, .b false, .b false, .i .i64 0, .i .i64 0, .sl 0 false []] [(0, 10, .t 30)]⟩,
      ⟨some 6, none, .mov (.t 31)⟩] false [])
     (.ret)))
     (.skip))))
    (.keep [0, 1, 2] (.seq
    (.seq
     (.region [⟨some 32, none, .mov (.t 1)⟩,
      ⟨some 33, none, .bin .eql (.t 32) (.c (.d (.i .i64 128)))⟩,
      ⟨some 34, none, .mov (.t 33)⟩,
      ⟨some 35, (some (2, false)), .mov (.t 1)⟩,
      ⟨some 36, (some (2, false)), .bin .gtr (.t 35) (.c (.d (.i .i64 192)))⟩,
      ⟨some 37, none, .pick (.t 34) (.c (.d (.b true))) (.t 36)⟩] false [])
     (.keep [0, 1, 2, 37] (.cond (.t 37)
     (.keep [] (.seq
      (.region [⟨some 6, none, .mov (.c (.d (.sl 0 false [])))⟩] false [])
      (.ret)))
     (.skip))))
    (.keep [0, 1, 2] (.seq
     (.region [⟨some 38, none, .mov (.t 2)⟩,
      ⟨some 39, none, .mov (.t 2)⟩,
      ⟨some 40, none, .un .not (.t 39)⟩,
      ⟨some 41, none, .build [.i .i64 0, .i .i64 0, .b false, .b false, .b false, .b false, .b false, .i .i64 0, .i .i64 0, .sl 0 false []] [(0, 1, .c (.d (.i .i64 3))), (1, 1, .c (.d (.i .i64 1))), (2, 1, .c (.d (.b true))), (3, 1, .t 38), (5, 1, .t 40)]⟩,
      ⟨some 7, none, .alloc [.i .i64 0, .i .i64 0, .b false, .b false, .b false, .b false, .b false, .i .i64 0, .i .i64 0, .sl 0 false []]⟩,
      ⟨none, none, .store 10 (.t 7) (.t 41)⟩] false [])
     (.keep [0, 1, 2, 7] (.seq
     (.region [⟨some 42, none, .mov (.t 1)⟩,
      ⟨some 43, none, .bin .eql (.t 42) (.c (.d (.i .i64 48)))⟩,
      ⟨some 44, none, .mov (.t 43)⟩,
      ⟨some 45, (some (2, false)), .mov (.t 1)⟩,
      ⟨some 46, (some (2, false)), .bin .eql (.t 45) (.c (.d (.i .i64 144)))⟩,
      ⟨some 47, none, .pick (.t 44) (.c (.d (.b true))) (.t 46)⟩,
      ⟨some 8, none, .mov (.t 47)⟩] false [])
     (.keep [0, 1, 2, 7, 8] (.seq
      (.seq
      (.region [⟨some 48, none, .mov (.t 8)⟩,
       ⟨some 49, none, .mov (.t 48)⟩,
       ⟨some 50, (some (1, false)), .mov (.t 1)⟩,
       ⟨some 51, (some (1, false)), .bin .eql (.t 50) (.c (.d (.i .i64 32)))⟩,
       ⟨some 52, none, .pick (.t 49) (.c (.d (.b true))) (.t 51)⟩] false [])
      (.keep [0, 1, 2, 7, 8, 52] (.cond (.t 52)
       (.keep [0, 1, 2, 7, 8] (.region [⟨some 53, none, .faddr 1 (.t 7)⟩,
        ⟨none, none, .store 1 (.t 53) (.c (.d (.i .i64 2)))⟩] false []))
       (.skip))))
      (.keep [0, 1, 2, 7, 8] (.seq
      (.region [⟨some 54, none, .load 10 true (.t 7)⟩,
       ⟨some 55, none, .litsO 1 [.i .i64 0, .i .i64 0, .b false, .b false, .b false, .b false, .b false, .i .i64 0, .i .i64 0, .sl 0 false []] [(0, 10, .t 54)]⟩,
       ⟨some 9, none, .mov (.t 55)⟩] false [])
      (.keep [0, 1, 2, 7, 8, 9] (.seq
       (.seq
       (.region [⟨some 56, none, .mov (.t 8)⟩] false [])
       (.keep [0, 1, 2, 7, 9, 56] (.cond (.t 56)
        (.keep [0, 1, 2, 7, 9] (.seq
        (.region [⟨some 57, none, .faddr 8 (.t 7)⟩,
         ⟨none, none, .store 1 (.t 57) (.c (.d (.i .i64 1)))⟩] false [])
        (.keep [0, 1, 2, 7, 9] (.region [⟨some 58, none, .mov (.t 9)⟩,
         ⟨some 59, none, .load 10 true (.t 7)⟩,
         ⟨some 60, none, .lits 1 [.i .i64 0, .i .i64 0, .b false, .b false, .b false, .b false, .b false, .i .i64 0, .i .i64 0, .sl 0 false []] [(0, 10, .t 59)]⟩,
         ⟨some 61, none, .app 10 64 (.t 58) (.t 60)⟩,
         ⟨some 9, none, .mov (.t 61)⟩] false []))))
        (.skip))))
       (.keep [0, 1, 2, 7, 9] (.seq
       (.seq
        (.region [⟨some 10, none, .mov (.c (.d (.i .i64 8)))⟩] false [])
        (.keep [0, 1, 2, 7, 9, 10] (.block 0 (.loop [0, 1, 2, 7, 9, 10] false F19_spindleref2_arithmetic_b0))))
       (.keep [9] (.seq
        (.region [⟨some 85, none, .mov (.t 9)⟩,
         ⟨some 6, none, .mov (.t 85)⟩] false [])
        (.ret)))))))))))))))))))))⟩

/-- spindle/spindleref2.jumps -/
def F20_spindleref2_jumps : SFn := ⟨3, true, true, [.tmp 6],
  .seq
   (.region [⟨some 6, none, .mov (.c (.d (.sl 0 false [])))⟩] false [])
   (.keep [0, 1, 2] (.seq
   (.region [⟨some 9, none, .build [.i .i64 0, .i .i64 0, .b false, .b false, .b false, .b false, .b false, .i .i64 0, .i .i64 0, .sl 0 false []] [(1, 1, .c (.d (.i .i64 1)))]⟩,
    ⟨some 7, none, .alloc [.i .i64 0, .i .i64 0, .b false, .b false, .b false, .b false, .b false, .i .i64 0, .i .i64 0, .sl 0 false []]⟩,
    ⟨none, none, .store 10 (.t 7) (.t 9)⟩] false [])
   (.keep [0, 1, 2, 7] (.seq
    (.block 0 (.seq
     (.region [⟨some 11, none, .mov (.t 1)⟩,
      ⟨some 12, none, .bin .eql (.t 11) (.c (.d (.i .i64 0)))⟩,
      ⟨some 13, none, .mov (.t 12)⟩,
      ⟨some 14, (some (2, true)), .mov (.t 2)⟩,
      ⟨some 15, (some (2, true)), .un .not (.t 14)⟩,
      ⟨some 16, none, .pick (.t 13) (.t 15) (.c (.d (.b false)))⟩,
      ⟨some 10, none, .mov (.t 16)⟩] false [])
     (.keep [0, 1, 2, 7, 10] (.cond (.t 10)
     (.keep [0, 7] (.seq
      (.region [⟨some 17, none, .faddr 0 (.t 7)⟩,
       ⟨none, none, .store 1 (.t 17) (.c (.d (.i .i64 7)))⟩] false [])
      (.keep [0, 7] (.seq
      (.region [⟨some 18, none, .mov (.t 0)⟩,
       ⟨some 19, none, .bin .eql (.t 18) (.c (.d (.i .i64 5)))⟩,
       ⟨some 20, none, .faddr 4 (.t 7)⟩,
       ⟨none, none, .store 1 (.t 20) (.t 19)⟩] false [])
      (.keep [0, 7] (.seq
       (.region [⟨some 21, none, .mov (.t 0)⟩,
        ⟨some 22, none, .bin .eql (.t 21) (.c (.d (.i .i64 6)))⟩,
        ⟨some 23, none, .faddr 5 (.t 7)⟩,
        ⟨none, none, .store 1 (.t 23) (.t 22)⟩] false [])
       (.keep [7] (.seq
       (.region [⟨some 24, none, .load 10 true (.t 7)⟩,
        ⟨some 25, none, .lits 1 [.i .i64 0, .i .i64 0, .b false, .b false, .b false, .b false, .b false, .i .i64 0, .i .i64 0, .sl 0 false []] [(0, 10, .t 24)]⟩,
        ⟨some 6, none, .mov (.t 25)⟩] false [])
       (.ret)))))))))
     (.keep [0, 1, 2, 7] (.seq
      (.region [⟨some 27, none, .mov (.t 1)⟩,
       ⟨some 28, none, .bin .eql (.t 27) (.c (.d (.i .i64 128)))⟩,
       ⟨some 29, none, .mov (.t 28)⟩,
       ⟨some 30, (some (2, true)), .mov (.t 0)⟩,
       ⟨some 31, (some (2, true)), .bin .eql (.t 30) (.c (.d (.i .i64 5)))⟩,
       ⟨some 32, none, .pick (.t 29) (.t 31) (.c (.d (.b false)))⟩,
       ⟨some 33, none, .mov (.t 32)⟩,
       ⟨some 34, (some (6, true)), .mov (.t 2)⟩,
       ⟨some 35, (some (6, true)), .un .not (.t 34)⟩,
       ⟨some 36, none, .pick (.t 33) (.t 35) (.c (.d (.b false)))⟩,
       ⟨some 26, none, .mov (.t 36)⟩] false [])
      (.keep [0, 1, 2, 7, 26] (.cond (.t 26)
      (.keep [7] (.seq
       (.region [⟨some 37, none, .faddr 0 (.t 7)⟩,
        ⟨none, none, .store 1 (.t 37) (.c (.d (.i .i64 9)))⟩] false [])
       (.keep [7] (.seq
       (.region [⟨some 38, none, .faddr 5 (.t 7)⟩,
        ⟨none, none, .store 1 (.t 38) (.c (.d (.b true)))⟩] false [])
       (.keep [7] (.seq
        (.region [⟨some 39, none, .load 10 true (.t 7)⟩,
         ⟨some 8, none, .alloc [.i .i64 0, .i .i64 0, .b false, .b false, .b false, .b false, .b false, .i .i64 0, .i .i64 0, .sl 0 false []]⟩,
         ⟨none, none, .store 10 (.t 8) (.t 39)⟩] false [])
        (.keep [7, 8] (.seq
        (.region [⟨some 40, none, .faddr 7 (.t 8)⟩,
         ⟨none, none, .store 1 (.t 40) (.c (.d (.i .i64 1)))⟩] false [])
        (.keep [7, 8] (.seq
         (.region [⟨some 41, none, .load 10 true (.t 7)⟩,
          ⟨some 42, none, .load 10 true (.t 8)⟩,
          ⟨some 43, none, .lits 2 [.i .i64 0, .i .i64 0, .b false, .b false, .b false, .b false, .b false, .i .i64 0, .i .i64 0, .sl 0 false []] [(0, 10, .t 41), (10, 10, .t 42)]⟩,
          ⟨some 6, none, .mov (.t 43)⟩] false [])
         (.ret)))))))))))
      (.keep [0, 1, 2, 7] (.seq
       (.region [⟨some 45, none, .mov (.t 1)⟩,
        ⟨some 46, none, .bin .eql (.t 45) (.c (.d (.i .i64 144)))⟩,
        ⟨some 47, none, .mov (.t 46)⟩,
        ⟨some 48, (some (2, true)), .mov (.t 0)⟩,
        ⟨some 49, (some (2, true)), .bin .eql (.t 48) (.c (.d (.i .i64 5)))⟩,
        ⟨some 50, none, .pick (.t 47) (.t 49) (.c (.d (.b false)))⟩,
        ⟨some 51, none, .mov (.t 50)⟩,
        ⟨some 52, (some (6, true)), .mov (.t 2)⟩,
        ⟨some 53, (some (6, true)), .un .not (.t 52)⟩,
        ⟨some 54, none, .pick (.t 51) (.t 53) (.c (.d (.b false)))⟩,
        ⟨some 44, none, .mov (.t 54)⟩] false [])
       (.keep [1, 2, 7, 44] (.cond (.t 44)
       (.keep [7] (.seq
        (.region [⟨some 55, none, .faddr 0 (.t 7)⟩,
         ⟨none, none, .store 1 (.t 55) (.c (.d (.i .i64 1)))⟩] false [])
        (.keep [7] (.seq
        (.region [⟨some 56, none, .load 10 true (.t 7)⟩,
         ⟨some 57, none, .lits 1 [.i .i64 0, .i .i64 0, .b false, .b false, .b false, .b false, .b false, .i .i64 0, .i .i64 0, .sl 0 false []] [(0, 10, .t 56)]⟩,
         ⟨some 6, none, .mov (.t 57)⟩] false [])
        (.ret)))))
       (.keep [1, 2] (.seq
        (.region [⟨some 59, none, .mov (.t 1)⟩,
         ⟨some 60, none, .bin .geq (.t 59) (.c (.d (.i .i64 16)))⟩,
         ⟨some 61, none, .mov (.t 60)⟩,
         ⟨some 62, (some (2, true)), .mov (.t 1)⟩,
         ⟨some 63, (some (2, true)), .bin .leq (.t 62) (.c (.d (.i .i64 112)))⟩,
         ⟨some 64, none, .pick (.t 61) (.t 63) (.c (.d (.b false)))⟩,
         ⟨some 65, none, .mov (.t 64)⟩,
         ⟨some 66, (some (6, false)), .mov (.t 1)⟩,
         ⟨some 67, (some (6, false)), .bin .geq (.t 66) (.c (.d (.i .i64 160)))⟩,
         ⟨some 68, (some (6, false)), .mov (.t 67)⟩,
         ⟨some 69, (some (9, true)), .mov (.t 1)⟩,
         ⟨some 70, (some (9, true)), .bin .leq (.t 69) (.c (.d (.i .i64 208)))⟩,
         ⟨some 71, (some (6, false)), .pick (.t 68) (.t 70) (.c (.d (.b false)))⟩,
         ⟨some 72, none, .pick (.t 65) (.c (.d (.b true))) (.t 71)⟩,
         ⟨some 58, none, .mov (.t 72)⟩] false [])
        (.keep [2, 58] (.cond (.t 58)
        (.keep [2] (.seq
         (.region [⟨some 73, none, .mov (.t 2)⟩,
          ⟨some 74, none, .mov (.t 2)⟩,
          ⟨some 75, none, .un .not (.t 74)⟩,
          ⟨some 76, none, .build [.i .i64 0, .i .i64 0, .b false, .b false, .b false, .b false, .b false, .i .i64 0, .i .i64 0, .sl 0 false []] [(0, 1, .c (.d (.i .i64 8))), (1, 1, .c (.d (.i .i64 1))), (2, 1, .c (.d (.b true))), (4, 1, .c (.d (.b true))), (3, 1, .t 73), (5, 1, .t 75)]⟩,
          ⟨some 77, none, .lits 1 [.i .i64 0, .i .i64 0, .b false, .b false, .b false, .b false, .b false, .i .i64 0, .i .i64 0, .sl 0 false []] [(0, 10, .t 76)]⟩,
          ⟨some 6, none, .mov (.t 77)⟩] false [])
         (.ret)))
        (.skip)))))))))))))))))
    (.keep [] (.seq
    (.region [⟨some 6, none, .mov (.c (.d (.sl 0 false [])))⟩] false [])
    (.ret)))))))⟩

/-- spindle/spindleref2.moves -/
def F21_spindleref2_moves : SFn := ⟨1, true, true, [.tmp 2],
  .seq
   (.region [⟨some 2, none, .mov (.c (.d (.sl 0 false [])))⟩] false [])
   (.keep [0] (.seq
   (.region [⟨some 6, none, .lits 7 [.i .i64 0] [(0, 1, .c (.d (.i .i64 97))), (1, 1, .c (.d (.i .i64 105))), (2, 1, .c (.d (.i .i64 113))), (3, 1, .c (.d (.i .i64 121))), (4, 1, .c (.d (.i .i64 129))), (5, 1, .c (.d (.i .i64 137))), (6, 1, .c (.d (.i .i64 145)))]⟩,
    ⟨some 3, none, .mov (.t 6)⟩] false [])
   (.keep [0, 3] (.seq
    (.region [⟨some 7, none, .lits 4 [.i .i64 0] [(0, 1, .c (.d (.i .i64 98))), (1, 1, .c (.d (.i .i64 106))), (2, 1, .c (.d (.i .i64 114))), (3, 1, .c (.d (.i .i64 122)))]⟩,
     ⟨some 4, none, .mov (.t 7)⟩] false [])
    (.keep [0, 3, 4] (.seq
    (.region [⟨some 8, none, .lits 4 [.i .i64 0] [(0, 1, .c (.d (.i .i64 99))), (1, 1, .c (.d (.i .i64 107))), (2, 1, .c (.d (.i .i64 115))), (3, 1, .c (.d (.i .i64 123)))]⟩,
     ⟨some 5, none, .mov (.t 8)⟩] false [])
    (.keep [0, 3, 4, 5] (.seq
     (.block 0 (.seq
      (.region [⟨some 10, none, .mov (.t 0)⟩,
       ⟨some 11, none, .bin .eql (.t 10) (.c (.d (.i .i64 24)))⟩,
       ⟨some 9, none, .mov (.t 11)⟩] false [])
      (.keep [0, 3, 4, 5, 9] (.cond (.t 9)
      (.keep [] (.seq
       (.region [⟨some 12, none, .build [.i .i64 0, .i .i64 0, .b false, .b false, .b false, .b false, .b false, .i .i64 0, .i .i64 0, .sl 0 false []] [(0, 1, .c (.d (.i .i64 10))), (1, 1, .c (.d (.i .i64 1))), (2, 1, .c (.d (.b true))), (5, 1, .c (.d (.b true))), (6, 1, .c (.d (.b true)))]⟩,
        ⟨some 13, none, .build [.i .i64 0, .i .i64 0, .b false, .b false, .b false, .b false, .b false, .i .i64 0, .i .i64 0, .sl 0 false []] [(0, 1, .c (.d (.i .i64 10))), (1, 1, .c (.d (.i .i64 1))), (2, 1, .c (.d (.b true))), (5, 1, .c (.d (.b true))), (7, 1, .c (.d (.i .i64 1)))]⟩,
        ⟨some 14, none, .lits 2 [.i .i64 0, .i .i64 0, .b false, .b false, .b false, .b false, .b false, .i .i64 0, .i .i64 0, .sl 0 false []] [(0, 10, .t 12), (10, 10, .t 13)]⟩,
        ⟨some 2, none, .mov (.t 14)⟩] false [])
       (.ret)))
      (.keep [0, 3, 4, 5] (.seq
       (.region [⟨some 16, none, .mov (.t 3)⟩,
        ⟨some 17, none, .mov (.t 0)⟩,
        ⟨some 18, none, .call 23 [.t 16, .t 17]⟩,
        ⟨some 15, none, .mov (.t 18)⟩] false [])
       (.keep [0, 4, 5, 15] (.cond (.t 15)
       (.keep [] (.seq
        (.region [⟨some 19, none, .build [.i .i64 0, .i .i64 0, .b false, .b false, .b false, .b false, .b false, .i .i64 0, .i .i64 0, .sl 0 false []] [(0, 1, .c (.d (.i .i64 4))), (1, 1, .c (.d (.i .i64 1))), (2, 1, .c (.d (.b true))), (3, 1, .c (.d (.b true))), (4, 1, .c (.d (.b true)))]⟩,
         ⟨some 20, none, .lits 1 [.i .i64 0, .i .i64 0, .b false, .b false, .b false, .b false, .b false, .i .i64 0, .i .i64 0, .sl 0 false []] [(0, 10, .t 19)]⟩,
         ⟨some 2, none, .mov (.t 20)⟩] false [])
        (.ret)))
       (.keep [0, 4, 5] (.seq
        (.region [⟨some 22, none, .mov (.t 4)⟩,
         ⟨some 23, none, .mov (.t 0)⟩,
         ⟨some 24, none, .call 23 [.t 22, .t 23]⟩,
         ⟨some 21, none, .mov (.t 24)⟩] false [])
        (.keep [0, 5, 21] (.cond (.t 21)
        (.keep [] (.seq
         (.region [⟨some 25, none, .build [.i .i64 0, .i .i64 0, .b false, .b false, .b false, .b false, .b false, .i .i64 0, .i .i64 0, .sl 0 false []] [(0, 1, .c (.d (.i .i64 5))), (1, 1, .c (.d (.i .i64 1))), (2, 1, .c (.d (.b true))), (4, 1, .c (.d (.b true))), (5, 1, .c (.d (.b true)))]⟩,
          ⟨some 26, none, .lits 1 [.i .i64 0, .i .i64 0, .b false, .b false, .b false, .b false, .b false, .i .i64 0, .i .i64 0, .sl 0 false []] [(0, 10, .t 25)]⟩,
          ⟨some 2, none, .mov (.t 26)⟩] false [])
         (.ret)))
        (.keep [0, 5] (.seq
         (.region [⟨some 28, none, .mov (.t 5)⟩,
          ⟨some 29, none, .mov (.t 0)⟩,
          ⟨some 30, none, .call 23 [.t 28, .t 29]⟩,
          ⟨some 27, none, .mov (.t 30)⟩] false [])
         (.keep [0, 27] (.cond (.t 27)
         (.keep [] (.seq
          (.region [⟨some 31, none, .build [.i .i64 0, .i .i64 0, .b false, .b false, .b false, .b false, .b false, .i .i64 0, .i .i64 0, .sl 0 false []] [(0, 1, .c (.d (.i .i64 5))), (1, 1, .c (.d (.i .i64 1))), (2, 1, .c (.d (.b true))), (3, 1, .c (.d (.b true))), (4, 1, .c (.d (.b true)))]⟩,
           ⟨some 32, none, .lits 1 [.i .i64 0, .i .i64 0, .b false, .b false, .b false, .b false, .b false, .i .i64 0, .i .i64 0, .sl 0 false []] [(0, 10, .t 31)]⟩,
           ⟨some 2, none, .mov (.t 32)⟩] false [])
          (.ret)))
         (.keep [0] (.seq
          (.region [⟨some 34, none, .mov (.t 0)⟩,
           ⟨some 35, none, .bin .eql (.t 34) (.c (.d (.i .i64 219)))⟩,
           ⟨some 36, none, .mov (.t 35)⟩,
           ⟨some 37, (some (2, false)), .mov (.t 0)⟩,
           ⟨some 38, (some (2, false)), .bin .eql (.t 37) (.c (.d (.i .i64 195)))⟩,
           ⟨some 39, none, .pick (.t 36) (.c (.d (.b true))) (.t 38)⟩,
           ⟨some 33, none, .mov (.t 39)⟩] false [])
          (.keep [33] (.cond (.t 33)
          (.keep [] (.seq
           (.region [⟨some 40, none, .lits 10 [.i .i64 0] [(0, 1, .c (.d (.i .i64 0))), (1, 1, .c (.d (.i .i64 64))), (2, 1, .c (.d (.i .i64 80))), (3, 1, .c (.d (.i .i64 160))), (4, 1, .c (.d (.i .i64 1))), (5, 1, .c (.d (.i .i64 65))), (6, 1, .c (.d (.i .i64 81))), (7, 1, .c (.d (.i .i64 161))), (8, 1, .c (.d (.i .i64 225))), (9, 1, .c (.d (.i .i64 241)))]⟩,
            ⟨some 41, none, .build [.i .i64 0, .i .i64 0, .b false, .b false, .b false, .b false, .b false, .i .i64 0, .i .i64 0, .sl 0 false []] [(0, 1, .c (.d (.i .i64 6))), (1, 1, .c (.d (.i .i64 3))), (2, 1, .c (.d (.b true))), (3, 1, .c (.d (.b true))), (4, 1, .c (.d (.b true))), (9, 1, .t 40)]⟩,
            ⟨some 42, none, .lits 1 [.i .i64 0, .i .i64 0, .b false, .b false, .b false, .b false, .b false, .i .i64 0, .i .i64 0, .sl 0 false []] [(0, 10, .t 41)]⟩,
            ⟨some 2, none, .mov (.t 42)⟩] false [])
           (.ret)))
          (.skip)))))))))))))))))))))
     (.keep [] (.seq
     (.region [⟨some 2, none, .mov (.c (.d (.sl 0 false [])))⟩] false [])
     (.ret)))))))))))⟩

def F23_spindleref2_has_b0 : SCode :=
  .seq
     (.seq
      (.region [⟨some 6, none, .mov (.t 5)⟩,
       ⟨some 7, none, .mov (.t 0)⟩,
       ⟨some 8, none, .len false (.t 7)⟩,
       ⟨some 9, none, .bin .lss (.t 6) (.t 8)⟩] false [])
      (.keep [0, 1, 5, 9] (.cond (.t 9)
      (.skip)
      (.exit 0))))
     (.keep [0, 1, 5] (.seq
      (.block 1 (.seq
       (.region [⟨some 12, none, .mov (.t 0)⟩,
        ⟨some 13, none, .mov (.t 5)⟩,
        ⟨some 14, none, .iaddr 1 (.t 12) (.t 13)⟩,
        ⟨some 15, none, .load 1 false (.t 14)⟩,
        ⟨some 16, none, .mov (.t 1)⟩,
        ⟨some 17, none, .bin .eql (.t 15) (.t 16)⟩] false [])
       (.keep [0, 1, 5, 17] (.cond (.t 17)
       (.keep [] (.seq
        (.region [⟨some 4, none, .mov (.c (.d (.b true)))⟩] false [])
        (.ret)))
       (.skip)))))
      (.keep [0, 1, 5] (.region [⟨some 10, none, .mov (.t 5)⟩,
       ⟨some 11, none, .bin .add (.t 10) (.c (.d (.i .i64 1)))⟩,
       ⟨some 5, none, .mov (.t 11)⟩] false []))))
/-- spindle/spindleref2.has -/
def F23_spindleref2_has : SFn := ⟨2, true, true, [.tmp 4],
  .seq
   (.region [⟨some 4, none, .mov (.c (.d (.b false)))⟩] false [])
   (.keep [0, 1] (.seq
   (.seq
    (.region [⟨some 5, none, .mov (.c (.d (.i .i64 0)))⟩] false [])
    (.keep [0, 1, 5] (.block 0 (.loop [0, 1, 5] false F23_spindleref2_has_b0))))
   (.keep [] (.seq
    (.region [⟨some 4, none, .mov (.c (.d (.b false)))⟩] false [])
    (.ret)))))⟩

def F65_spindleref2_May_b0 : SCode :=
  .seq
      (.seq
       (.region [⟨some 11, none, .mov (.t 4)⟩,
        ⟨some 12, none, .mov (.t 3)⟩,
        ⟨some 13, none, .len false (.t 12)⟩,
        ⟨some 14, none, .bin .lss (.t 11) (.t 13)⟩] false [])
       (.keep [1, 3, 4, 14] (.cond (.t 14)
       (.skip)
       (.exit 0))))
      (.keep [1, 3, 4] (.seq
       (.block 1 (.seq
        (.region [⟨some 17, none, .mov (.t 3)⟩,
         ⟨some 18, none, .mov (.t 4)⟩,
         ⟨some 19, none, .iaddr 10 (.t 17) (.t 18)⟩,
         ⟨some 20, none, .load 10 true (.t 19)⟩,
         ⟨some 21, none, .load 5 true (.t 1)⟩,
         ⟨some 22, none, .call 67 [.t 20, .t 21]⟩] true [0, 0, 3, 7, 0, 31])
        (.keep [1, 3, 4, 22] (.cond (.t 22)
        (.keep [] (.seq
         (.region [⟨some 2, none, .mov (.c (.d (.i .i64 0)))⟩] false [])
         (.ret)))
        (.skip)))))
       (.keep [1, 3, 4] (.region [⟨some 15, none, .mov (.t 4)⟩,
        ⟨some 16, none, .bin .add (.t 15) (.c (.d (.i .i64 1)))⟩,
        ⟨some 4, none, .mov (.t 16)⟩] false []))))
/-- spindle/spindleref2.May -/
def F65_spindleref2_May : SFn := ⟨1, true, true, [.tmp 2],
  .seq
   (.region [⟨some 1, none, .box (.t 0)⟩,
    ⟨some 2, none, .mov (.c (.d (.i .i64 0)))⟩] false [])
   (.keep [1] (.seq
   (.region [⟨some 5, none, .faddr 0 (.t 1)⟩,
    ⟨some 6, none, .load 1 false (.t 5)⟩,
    ⟨some 7, none, .call 17 [.t 6]⟩,
    ⟨some 3, none, .mov (.t 7)⟩] false [])
   (.keep [1, 3] (.seq
    (.seq
    (.region [⟨some 8, none, .mov (.t 3)⟩,
     ⟨some 9, none, .len false (.t 8)⟩,
     ⟨some 10, none, .bin .eql (.t 9) (.c (.d (.i .i64 0)))⟩] false [])
    (.keep [1, 3, 10] (.cond (.t 10)
     (.keep [] (.seq
     (.region [⟨some 2, none, .mov (.c (.d (.i .i64 20)))⟩] false [])
     (.ret)))
     (.skip))))
    (.keep [1, 3] (.seq
    (.seq
     (.region [⟨some 4, none, .mov (.c (.d (.i .i64 0)))⟩] false [])
     (.keep [1, 3, 4] (.block 0 (.loop [1, 3, 4] false F65_spindleref2_May_b0))))
    (.keep [] (.seq
     (.region [⟨some 2, none, .mov (.c (.d (.i .i64 21)))⟩] false [])
     (.ret)))))))))⟩

def F67_spindleref2_fits_r0 : List SOper := [⟨some 14, none, .faddr 3 (.t 3)⟩,
  ⟨some 15, none, .load 1 false (.t 14)⟩,
  ⟨some 16, none, .bin .geq (.t 15) (.c (.d (.i .i64 (-32768))))⟩,
  ⟨some 17, none, .mov (.t 16)⟩,
  ⟨some 18, (some (3, true)), .faddr 3 (.t 3)⟩,
  ⟨some 19, (some (3, true)), .load 1 false (.t 18)⟩,
  ⟨some 20, (some (3, true)), .bin .leq (.t 19) (.c (.d (.i .i64 32767)))⟩,
  ⟨some 21, none, .pick (.t 17) (.t 20) (.c (.d (.b false)))⟩,
  ⟨some 5, none, .mov (.t 21)⟩]
def F67_spindleref2_fits_r1 : List SOper := [⟨some 36, none, .faddr 6 (.t 2)⟩,
  ⟨some 37, none, .load 1 false (.t 36)⟩,
  ⟨some 38, none, .mov (.t 37)⟩,
  ⟨some 39, (some (2, false)), .faddr 4 (.t 3)⟩,
  ⟨some 40, (some (2, false)), .load 1 false (.t 39)⟩,
  ⟨some 41, (some (2, false)), .bin .geq (.t 40) (.c (.d (.i .i64 (-2147483648))))⟩,
  ⟨some 42, (some (2, false)), .mov (.t 41)⟩,
  ⟨some 43, (some (6, true)), .faddr 4 (.t 3)⟩,
  ⟨some 44, (some (6, true)), .load 1 false (.t 43)⟩,
  ⟨some 45, (some (6, true)), .bin .leq (.t 44) (.c (.d (.i .i64 2147483647)))⟩,
  ⟨some 46, (some (2, false)), .pick (.t 42) (.t 45) (.c (.d (.b false)))⟩,
  ⟨some 47, none, .pick (.t 38) (.c (.d (.b true))) (.t 46)⟩,
  ⟨some 6, none, .mov (.t 47)⟩]
def F67_spindleref2_fits_r2 : List SOper := [⟨some 48, none, .mov (.t 5)⟩,
  ⟨some 49, none, .mov (.t 48)⟩,
  ⟨some 50, (some (1, true)), .mov (.t 6)⟩,
  ⟨some 51, none, .pick (.t 49) (.t 50) (.c (.d (.b false)))⟩,
  ⟨some 52, none, .mov (.t 51)⟩,
  ⟨some 53, (some (4, true)), .faddr 2 (.t 2)⟩,
  ⟨some 54, (some (4, true)), .load 1 false (.t 53)⟩,
  ⟨some 55, (some (4, true)), .faddr 1 (.t 3)⟩,
  ⟨some 56, (some (4, true)), .load 1 false (.t 55)⟩,
  ⟨some 57, (some (4, true)), .call 68 [.t 54, .c (.d (.i .i64 0)), .t 56]⟩,
  ⟨some 58, none, .pick (.t 52) (.t 57) (.c (.d (.b false)))⟩,
  ⟨some 59, none, .mov (.t 58)⟩,
  ⟨some 60, (some (11, true)), .faddr 3 (.t 2)⟩,
  ⟨some 61, (some (11, true)), .load 1 false (.t 60)⟩,
  ⟨some 62, (some (11, true)), .faddr 7 (.t 2)⟩,
  ⟨some 63, (some (11, true)), .load 1 false (.t 62)⟩,
  ⟨some 64, (some (11, true)), .faddr 2 (.t 3)⟩,
  ⟨some 65, (some (11, true)), .load 1 false (.t 64)⟩,
  ⟨some 66, (some (11, true)), .call 68 [.t 61, .t 63, .t 65]⟩,
  ⟨some 67, none, .pick (.t 59) (.t 66) (.c (.d (.b false)))⟩,
  ⟨some 4, none, .mov (.t 67)⟩]
/-- spindle/spindleref2.fits -/
def F67_spindleref2_fits : SFn := ⟨2, true, true, [.tmp 4],
  .seq
   (.region [⟨some 2, none, .box (.t 0)⟩,
    ⟨some 3, none, .box (.t 1)⟩,
    ⟨some 4, none, .mov (.c (.d (.b false)))⟩] false [])
   (.keep [2, 3] (.seq
   (.region [⟨some 7, none, .faddr 3 (.t 3)⟩,
    ⟨some 8, none, .load 1 false (.t 7)⟩,
    ⟨some 9, none, .faddr 8 (.t 2)⟩,
    ⟨some 10, none, .load 1 false (.t 9)⟩,
    ⟨some 11, none, .bin .eql (.t 8) (.t 10)⟩,
    ⟨some 5, none, .mov (.t 11)⟩] false [])
   (.keep [2, 3, 5] (.seq
    (.seq
    (.region [⟨some 12, none, .faddr 4 (.t 2)⟩,
     ⟨some 13, none, .load 1 false (.t 12)⟩] false [])
    (.keep [2, 3, 5, 13] (.cond (.t 13)
     (.keep [2, 3] (.region F67_spindleref2_fits_r0 false []))
     (.skip))))
    (.keep [2, 3, 5] (.seq
    (.region [⟨some 22, none, .faddr 4 (.t 3)⟩,
     ⟨some 23, none, .load 1 false (.t 22)⟩,
     ⟨some 24, none, .bin .eql (.t 23) (.c (.d (.i .i64 0)))⟩,
     ⟨some 6, none, .mov (.t 24)⟩] false [])
    (.keep [2, 3, 5, 6] (.seq
     (.seq
     (.region [⟨some 25, none, .faddr 9 (.t 2)⟩,
      ⟨some 26, none, .load 1 false (.t 25)⟩,
      ⟨some 27, none, .len false (.t 26)⟩,
      ⟨some 28, none, .bin .gtr (.t 27) (.c (.d (.i .i64 0)))⟩] false [])
     (.keep [2, 3, 5, 6, 28] (.cond (.t 28)
      (.keep [2, 3, 5] (.region [⟨some 29, none, .faddr 9 (.t 2)⟩,
       ⟨some 30, none, .load 1 false (.t 29)⟩,
       ⟨some 31, none, .faddr 4 (.t 3)⟩,
       ⟨some 32, none, .load 1 false (.t 31)⟩,
       ⟨some 33, none, .call 23 [.t 30, .t 32]⟩,
       ⟨some 6, none, .mov (.t 33)⟩] false []))
      (.skip))))
     (.keep [2, 3, 5, 6] (.seq
     (.seq
      (.region [⟨some 34, none, .faddr 5 (.t 2)⟩,
       ⟨some 35, none, .load 1 false (.t 34)⟩] false [])
      (.keep [2, 3, 5, 6, 35] (.cond (.t 35)
      (.keep [2, 3, 5] (.region F67_spindleref2_fits_r1 false []))
      (.skip))))
     (.keep [2, 3, 5, 6] (.seq
      (.region F67_spindleref2_fits_r2 false [])
      (.ret)))))))))))))⟩

def F68_spindleref2_register_r0 : List SOper := [⟨some 8, none, .mov (.t 2)⟩,
  ⟨some 9, none, .bin .geq (.t 8) (.c (.d (.i .i64 0)))⟩,
  ⟨some 10, none, .mov (.t 9)⟩,
  ⟨some 11, (some (2, true)), .mov (.t 2)⟩,
  ⟨some 12, (some (2, true)), .bin .leq (.t 11) (.c (.d (.i .i64 10)))⟩,
  ⟨some 13, none, .pick (.t 10) (.t 12) (.c (.d (.b false)))⟩,
  ⟨some 6, none, .mov (.t 13)⟩]
/-- spindle/spindleref2.register -/
def F68_spindleref2_register : SFn := ⟨3, true, true, [.tmp 6],
  .seq
   (.region [⟨some 6, none, .mov (.c (.d (.b false)))⟩] false [])
   (.keep [0, 1, 2] (.seq
   (.seq
    (.region [⟨some 7, none, .mov (.t 0)⟩] false [])
    (.keep [1, 2, 7] (.cond (.t 7)
    (.keep [2] (.seq
     (.region F68_spindleref2_register_r0 false [])
     (.ret)))
    (.skip))))
   (.keep [1, 2] (.seq
    (.region [⟨some 14, none, .mov (.t 2)⟩,
     ⟨some 15, none, .mov (.t 1)⟩,
     ⟨some 16, none, .bin .eql (.t 14) (.t 15)⟩,
     ⟨some 6, none, .mov (.t 16)⟩] false [])
    (.ret)))))⟩

/-- spindle/spindleref2.Writes -/
def F86_spindleref2_Writes : SFn := ⟨1, true, true, [.tmp 2],
  .seq
   (.region [⟨some 1, none, .box (.t 0)⟩,
    ⟨some 2, none, .mov (.c (.d (.sl 0 false [])))⟩] false [])
   (.keep [1] (.seq
   (.seq
    (.region [⟨some 3, none, .load 5 true (.t 1)⟩,
     ⟨some 4, none, .call 65 [.t 3]⟩,
     ⟨some 5, none, .bin .neq (.t 4) (.c (.d (.i .i64 0)))⟩] false [])
    (.keep [1, 5] (.cond (.t 5)
    (.keep [] (.seq
     (.region [⟨some 2, none, .mov (.c (.d (.sl 0 false [])))⟩] false [])
     (.ret)))
    (.skip))))
   (.keep [1] (.seq
    (.seq
    (.region [⟨some 6, none, .faddr 0 (.t 1)⟩,
     ⟨some 7, none, .load 1 false (.t 6)⟩,
     ⟨some 8, none, .call 17 [.t 7]⟩,
     ⟨some 9, none, .iaddr 10 (.t 8) (.c (.d (.i .i64 0)))⟩,
     ⟨some 10, none, .faddr 0 (.t 9)⟩,
     ⟨some 11, none, .load 1 false (.t 10)⟩] false [])
    (.keep [1, 11] (.block 0 (.seq
     (.seq
      (.region [⟨some 13, none, .bin .eql (.t 11) (.c (.d (.i .i64 3)))⟩,
       ⟨some 12, none, .mov (.t 13)⟩] false [])
      (.keep [1, 11, 12] (.cond (.t 12)
      (.skip)
      (.keep [1, 11] (.seq
       (.region [⟨some 14, none, .bin .eql (.t 11) (.c (.d (.i .i64 2)))⟩,
        ⟨some 12, none, .mov (.t 14)⟩] false [])
       (.keep [1, 11, 12] (.cond (.t 12)
       (.skip)
       (.keep [1, 11] (.seq
        (.region [⟨some 15, none, .bin .eql (.t 11) (.c (.d (.i .i64 4)))⟩,
         ⟨some 12, none, .mov (.t 15)⟩] false [])
        (.keep [1, 11, 12] (.cond (.t 12)
        (.skip)
        (.keep [1, 11] (.region [⟨some 16, none, .bin .eql (.t 11) (.c (.d (.i .i64 10)))⟩,
         ⟨some 12, none, .mov (.t 16)⟩] false [])))))))))))))
     (.keep [1, 11, 12] (.cond (.t 12)
      (.keep [1] (.seq
      (.region [⟨some 17, none, .faddr 1 (.t 1)⟩,
       ⟨some 18, none, .load 1 false (.t 17)⟩,
       ⟨some 19, none, .lits 1 [.i .i64 0] [(0, 1, .t 18)]⟩,
       ⟨some 2, none, .mov (.t 19)⟩] false [])
      (.ret)))
      (.keep [1, 11] (.seq
      (.region [⟨some 21, none, .bin .eql (.t 11) (.c (.d (.i .i64 9)))⟩,
       ⟨some 20, none, .mov (.t 21)⟩] false [])
      (.keep [1, 11, 20] (.cond (.t 20)
       (.keep [] (.seq
       (.region [⟨some 22, none, .call 94 [.c (.d (.i .i64 0)), .c (.d (.i .i64 5))]⟩,
        ⟨some 2, none, .mov (.t 22)⟩] false [])
       (.ret)))
       (.keep [1, 11] (.seq
       (.region [⟨some 24, none, .bin .eql (.t 11) (.c (.d (.i .i64 6)))⟩,
        ⟨some 23, none, .mov (.t 24)⟩] false [])
       (.keep [1, 23] (.cond (.t 23)
        (.keep [1] (.seq
        (.seq
         (.region [⟨some 25, none, .faddr 4 (.t 1)⟩,
          ⟨some 26, none, .load 1 false (.t 25)⟩,
          ⟨some 27, none, .bin .eql (.t 26) (.c (.d (.i .i64 241)))⟩] false [])
         (.keep [1, 27] (.cond (.t 27)
         (.keep [] (.seq
          (.region [⟨some 28, none, .lits 1 [.i .i64 0] [(0, 1, .c (.d (.i .i64 0)))]⟩,
           ⟨some 2, none, .mov (.t 28)⟩] false [])
          (.ret)))
         (.skip))))
        (.keep [1] (.seq
         (.region [⟨some 29, none, .faddr 4 (.t 1)⟩,
          ⟨some 30, none, .load 1 false (.t 29)⟩,
          ⟨some 31, none, .bin .rem (.t 30) (.c (.d (.i .i64 2)))⟩,
          ⟨some 32, none, .bin .eql (.t 31) (.c (.d (.i .i64 1)))⟩] false [])
         (.keep [1, 32] (.cond (.t 32)
         (.keep [1] (.seq
          (.region [⟨some 33, none, .faddr 2 (.t 1)⟩,
           ⟨some 34, none, .load 1 false (.t 33)⟩,
           ⟨some 35, none, .lits 1 [.i .i64 0] [(0, 1, .t 34)]⟩,
           ⟨some 2, none, .mov (.t 35)⟩] false [])
          (.ret)))
         (.skip)))))))
        (.skip)))))))))))))))
    (.keep [] (.seq
    (.region [⟨some 2, none, .mov (.c (.d (.sl 0 false [])))⟩] false [])
    (.ret)))))))⟩

/-- spindle/spindleref2.Reads -/
def F87_spindleref2_Reads : SFn := ⟨1, true, true, [.tmp 2],
  .seq
   (.region [⟨some 1, none, .box (.t 0)⟩,
    ⟨some 2, none, .mov (.c (.d (.sl 0 false [])))⟩] false [])
   (.keep [1] (.seq
   (.seq
    (.region [⟨some 6, none, .load 5 true (.t 1)⟩,
     ⟨some 7, none, .call 65 [.t 6]⟩,
     ⟨some 8, none, .bin .neq (.t 7) (.c (.d (.i .i64 0)))⟩] false [])
    (.keep [1, 8] (.cond (.t 8)
    (.keep [] (.seq
     (.region [⟨some 2, none, .mov (.c (.d (.sl 0 false [])))⟩] false [])
     (.ret)))
    (.skip))))
   (.keep [1] (.seq
    (.region [⟨some 3, none, .alloc [.b false, .b false, .b false, .b false, .b false, .b false, .b false, .b false, .b false, .b false, .b false]⟩] false [])
    (.keep [1, 3] (.seq
    (.region [⟨some 9, none, .faddr 0 (.t 1)⟩,
     ⟨some 10, none, .load 1 false (.t 9)⟩,
     ⟨some 11, none, .call 17 [.t 10]⟩,
     ⟨some 12, none, .iaddr 10 (.t 11) (.c (.d (.i .i64 0)))⟩,
     ⟨some 13, none, .load 10 true (.t 12)⟩,
     ⟨some 4, none, .alloc [.i .i64 0, .i .i64 0, .b false, .b false, .b false, .b false, .b false, .i .i64 0, .i .i64 0, .sl 0 false []]⟩,
     ⟨none, none, .store 10 (.t 4) (.t 13)⟩] false [])
    (.keep [1, 3, 4] (.seq
     (.seq
     (.region [⟨some 14, none, .faddr 0 (.t 4)⟩,
      ⟨some 15, none, .load 1 false (.t 14)⟩] false [])
     (.keep [1, 3, 4, 15] (.block 0 (.seq
      (.region [⟨some 17, none, .bin .eql (.t 15) (.c (.d (.i .i64 3)))⟩,
       ⟨some 16, none, .mov (.t 17)⟩] false [])
      (.keep [1, 3, 4, 15, 16] (.cond (.t 16)
       (.keep [1, 3, 4] (.seq
       (.region [⟨some 18, none, .faddr 0 (.t 1)⟩,
        ⟨some 19, none, .load 1 false (.t 18)⟩,
        ⟨some 20, none, .bin .eql (.t 19) (.c (.d (.i .i64 183)))⟩,
        ⟨some 21, none, .mov (.t 20)⟩,
        ⟨some 22, (some (3, false)), .faddr 0 (.t 1)⟩,
        ⟨some 23, (some (3, false)), .load 1 false (.t 22)⟩,
        ⟨some 24, (some (3, false)), .bin .eql (.t 23) (.c (.d (.i .i64 191)))⟩,
        ⟨some 25, none, .pick (.t 21) (.c (.d (.b true))) (.t 24)⟩,
        ⟨some 26, none, .mov (.t 25)⟩,
        ⟨some 27, (some (8, false)), .faddr 0 (.t 1)⟩,
        ⟨some 28, (some (8, false)), .load 1 false (.t 27)⟩,
        ⟨some 29, (some (8, false)), .bin .eql (.t 28) (.c (.d (.i .i64 180)))⟩,
        ⟨some 30, none, .pick (.t 26) (.c (.d (.b true))) (.t 29)⟩,
        ⟨some 31, none, .mov (.t 30)⟩,
        ⟨some 32, (some (13, false)), .faddr 0 (.t 1)⟩,
        ⟨some 33, (some (13, false)), .load 1 false (.t 32)⟩,
        ⟨some 34, (some (13, false)), .bin .eql (.t 33) (.c (.d (.i .i64 188)))⟩,
        ⟨some 35, none, .pick (.t 31) (.c (.d (.b true))) (.t 34)⟩,
        ⟨some 5, none, .mov (.t 35)⟩] false [])
       (.keep [1, 3, 4, 5] (.seq
        (.region [⟨some 36, none, .mov (.t 5)⟩,
         ⟨some 37, none, .un .not (.t 36)⟩] false [])
        (.keep [1, 3, 4, 37] (.cond (.t 37)
        (.keep [1, 3, 4] (.region [⟨some 38, none, .faddr 1 (.t 1)⟩,
         ⟨some 39, none, .load 1 false (.t 38)⟩,
         ⟨some 40, none, .iaddrA 11 1 (.t 3) (.t 39)⟩,
         ⟨none, none, .store 1 (.t 40) (.c (.d (.b true)))⟩] false []))
        (.skip)))))))
       (.keep [1, 3, 4, 15] (.seq
       (.seq
        (.region [⟨some 42, none, .bin .eql (.t 15) (.c (.d (.i .i64 2)))⟩,
         ⟨some 41, none, .mov (.t 42)⟩] false [])
        (.keep [1, 3, 4, 15, 41] (.cond (.t 41)
        (.skip)
        (.keep [1, 3, 4, 15] (.seq
         (.region [⟨some 43, none, .bin .eql (.t 15) (.c (.d (.i .i64 5)))⟩,
          ⟨some 41, none, .mov (.t 43)⟩] false [])
         (.keep [1, 3, 4, 15, 41] (.cond (.t 41)
         (.skip)
         (.keep [1, 3, 4, 15] (.seq
          (.region [⟨some 44, none, .bin .eql (.t 15) (.c (.d (.i .i64 6)))⟩,
           ⟨some 41, none, .mov (.t 44)⟩] false [])
          (.keep [1, 3, 4, 15, 41] (.cond (.t 41)
          (.skip)
          (.keep [1, 3, 4, 15] (.region [⟨some 45, none, .bin .eql (.t 15) (.c (.d (.i .i64 8)))⟩,
           ⟨some 41, none, .mov (.t 45)⟩] false [])))))))))))))
       (.keep [1, 3, 4, 15, 41] (.cond (.t 41)
        (.keep [1, 3, 4] (.region [⟨some 46, none, .faddr 1 (.t 1)⟩,
         ⟨some 47, none, .load 1 false (.t 46)⟩,
         ⟨some 48, none, .iaddrA 11 1 (.t 3) (.t 47)⟩,
         ⟨none, none, .store 1 (.t 48) (.c (.d (.b true)))⟩] false []))
        (.keep [1, 3, 4, 15] (.seq
        (.region [⟨some 50, none, .bin .eql (.t 15) (.c (.d (.i .i64 9)))⟩,
         ⟨some 49, none, .mov (.t 50)⟩] false [])
        (.keep [1, 3, 4, 15, 49] (.cond (.t 49)
         (.keep [1] (.seq
         (.region [⟨some 51, none, .load 5 true (.t 1)⟩,
          ⟨some 52, none, .call 95 [.t 51]⟩,
          ⟨some 2, none, .mov (.t 52)⟩] false [])
         (.ret)))
         (.keep [1, 3, 4, 15] (.seq
         (.region [⟨some 54, none, .bin .eql (.t 15) (.c (.d (.i .i64 1)))⟩,
          ⟨some 53, none, .mov (.t 54)⟩] false [])
         (.keep [1, 3, 4, 53] (.cond (.t 53)
          (.keep [1, 3, 4] (.region [⟨some 55, none, .iaddrA 11 1 (.t 3) (.c (.d (.i .i64 0)))⟩,
           ⟨none, none, .store 1 (.t 55) (.c (.d (.b true)))⟩] false []))
          (.skip)))))))))))))))))))
     (.keep [1, 3, 4] (.seq
     (.seq
      (.region [⟨some 56, none, .faddr 3 (.t 4)⟩,
       ⟨some 57, none, .load 1 false (.t 56)⟩] false [])
      (.keep [1, 3, 4, 57] (.cond (.t 57)
      (.keep [1, 3, 4] (.region [⟨some 58, none, .faddr 2 (.t 1)⟩,
       ⟨some 59, none, .load 1 false (.t 58)⟩,
       ⟨some 60, none, .iaddrA 11 1 (.t 3) (.t 59)⟩,
       ⟨none, none, .store 1 (.t 60) (.c (.d (.b true)))⟩] false []))
      (.skip))))
     (.keep [1, 3, 4] (.seq
      (.seq
      (.region [⟨some 61, none, .faddr 0 (.t 4)⟩,
       ⟨some 62, none, .load 1 false (.t 61)⟩,
       ⟨some 63, none, .bin .eql (.t 62) (.c (.d (.i .i64 6)))⟩,
       ⟨some 64, none, .mov (.t 63)⟩,
       ⟨some 65, (some (3, true)), .faddr 4 (.t 1)⟩,
       ⟨some 66, (some (3, true)), .load 1 false (.t 65)⟩,
       ⟨some 67, (some (3, true)), .bin .eql (.t 66) (.c (.d (.i .i64 241)))⟩,
       ⟨some 68, none, .pick (.t 64) (.t 67) (.c (.d (.b false)))⟩] false [])
      (.keep [3, 68] (.cond (.t 68)
       (.keep [3] (.region [⟨some 69, none, .iaddrA 11 1 (.t 3) (.c (.d (.i .i64 0)))⟩,
        ⟨none, none, .store 1 (.t 69) (.c (.d (.b true)))⟩] false []))
       (.skip))))
      (.keep [3] (.seq
      (.region [⟨some 70, none, .load 11 true (.t 3)⟩,
       ⟨some 71, none, .call 96 [.t 70]⟩,
       ⟨some 2, none, .mov (.t 71)⟩] false [])
      (.ret)))))))))))))))⟩

/-- spindle/spindleref2.Jumps -/
def F88_spindleref2_Jumps : SFn := ⟨1, true, true, [.tmp 2],
  .seq
   (.region [⟨some 1, none, .box (.t 0)⟩,
    ⟨some 2, none, .mov (.c (.d (.i .i64 0)))⟩] false [])
   (.keep [1] (.seq
   (.seq
    (.region [⟨some 3, none, .load 5 true (.t 1)⟩,
     ⟨some 4, none, .call 65 [.t 3]⟩,
     ⟨some 5, none, .bin .neq (.t 4) (.c (.d (.i .i64 0)))⟩] false [])
    (.keep [1, 5] (.cond (.t 5)
    (.keep [] (.seq
     (.region [⟨some 2, none, .mov (.c (.d (.i .i64 0)))⟩] false [])
     (.ret)))
    (.skip))))
   (.keep [1] (.seq
    (.seq
    (.region [⟨some 6, none, .faddr 0 (.t 1)⟩,
     ⟨some 7, none, .load 1 false (.t 6)⟩,
     ⟨some 8, none, .call 17 [.t 7]⟩,
     ⟨some 9, none, .iaddr 10 (.t 8) (.c (.d (.i .i64 0)))⟩,
     ⟨some 10, none, .faddr 0 (.t 9)⟩,
     ⟨some 11, none, .load 1 false (.t 10)⟩] false [])
    (.keep [1, 11] (.block 0 (.seq
     (.region [⟨some 13, none, .bin .eql (.t 11) (.c (.d (.i .i64 7)))⟩,
      ⟨some 12, none, .mov (.t 13)⟩] false [])
     (.keep [1, 11, 12] (.cond (.t 12)
      (.keep [] (.seq
      (.region [⟨some 2, none, .mov (.c (.d (.i .i64 1)))⟩] false [])
      (.ret)))
      (.keep [1, 11] (.seq
      (.region [⟨some 15, none, .bin .eql (.t 11) (.c (.d (.i .i64 8)))⟩,
       ⟨some 14, none, .mov (.t 15)⟩] false [])
      (.keep [1, 11, 14] (.cond (.t 14)
       (.keep [] (.seq
       (.region [⟨some 2, none, .mov (.c (.d (.i .i64 2)))⟩] false [])
       (.ret)))
       (.keep [1, 11] (.seq
       (.region [⟨some 17, none, .bin .eql (.t 11) (.c (.d (.i .i64 1)))⟩,
        ⟨some 16, none, .mov (.t 17)⟩] false [])
       (.keep [1, 11, 16] (.cond (.t 16)
        (.keep [] (.seq
        (.region [⟨some 2, none, .mov (.c (.d (.i .i64 4)))⟩] false [])
        (.ret)))
        (.keep [1, 11] (.seq
        (.region [⟨some 19, none, .bin .eql (.t 11) (.c (.d (.i .i64 9)))⟩,
         ⟨some 18, none, .mov (.t 19)⟩] false [])
        (.keep [1, 18] (.cond (.t 18)
         (.keep [1] (.seq
         (.region [⟨some 20, none, .faddr 2 (.t 1)⟩,
          ⟨some 21, none, .load 1 false (.t 20)⟩,
          ⟨some 22, none, .bin .eql (.t 21) (.c (.d (.i .i64 1)))⟩] false [])
         (.keep [22] (.cond (.t 22)
          (.keep [] (.seq
          (.region [⟨some 2, none, .mov (.c (.d (.i .i64 3)))⟩] false [])
          (.ret)))
          (.skip)))))
         (.skip)))))))))))))))))))
    (.keep [] (.seq
    (.region [⟨some 2, none, .mov (.c (.d (.i .i64 0)))⟩] false [])
    (.ret)))))))⟩

/-- spindle/spindleref2.Wide -/
def F89_spindleref2_Wide : SFn := ⟨1, true, true, [.tmp 2],
  .seq
   (.region [⟨some 1, none, .box (.t 0)⟩,
    ⟨some 2, none, .mov (.c (.d (.b false)))⟩] false [])
   (.keep [1] (.seq
   (.region [⟨some 3, none, .faddr 0 (.t 1)⟩,
    ⟨some 4, none, .load 1 false (.t 3)⟩,
    ⟨some 5, none, .bin .eql (.t 4) (.c (.d (.i .i64 24)))⟩,
    ⟨some 2, none, .mov (.t 5)⟩] false [])
   (.ret)))⟩

def F94_spindleref2_upTo_b0 : SCode :=
  .seq
      (.seq
      (.region [⟨some 8, none, .mov (.t 6)⟩,
       ⟨some 9, none, .mov (.t 1)⟩,
       ⟨some 10, none, .bin .leq (.t 8) (.t 9)⟩] false [])
      (.keep [1, 5, 6, 10] (.cond (.t 10)
       (.skip)
       (.exit 0))))
      (.keep [1, 5, 6] (.seq
      (.block 1 (.region [⟨some 13, none, .mov (.t 5)⟩,
        ⟨some 14, none, .mov (.t 6)⟩,
        ⟨some 15, none, .lits 1 [.i .i64 0] [(0, 1, .t 14)]⟩,
        ⟨some 16, none, .app 1 8 (.t 13) (.t 15)⟩,
        ⟨some 5, none, .mov (.t 16)⟩] false []))
      (.keep [1, 5, 6] (.region [⟨some 11, none, .mov (.t 6)⟩,
       ⟨some 12, none, .bin .add (.t 11) (.c (.d (.i .i64 1)))⟩,
       ⟨some 6, none, .mov (.t 12)⟩] false []))))
/-- spindle/spindleref2.upTo -/
def F94_spindleref2_upTo : SFn := ⟨2, true, true, [.tmp 4],
  .seq
   (.region [⟨some 4, none, .mov (.c (.d (.sl 0 false [])))⟩] false [])
   (.keep [0, 1] (.seq
   (.region [⟨some 5, none, .mov (.c (.d (.sl 0 false [])))⟩] false [])
   (.keep [0, 1, 5] (.seq
    (.seq
    (.region [⟨some 7, none, .mov (.t 0)⟩,
     ⟨some 6, none, .mov (.t 7)⟩] false [])
    (.keep [1, 5, 6] (.block 0 (.loop [1, 5, 6] false F94_spindleref2_upTo_b0))))
    (.keep [5] (.seq
    (.region [⟨some 17, none, .mov (.t 5)⟩,
     ⟨some 4, none, .mov (.t 17)⟩] false [])
    (.ret)))))))⟩

/-- spindle/spindleref2.called -/
def F95_spindleref2_called : SFn := ⟨1, true, true, [.tmp 2],
  .seq
   (.region [⟨some 1, none, .box (.t 0)⟩,
    ⟨some 2, none, .mov (.c (.d (.sl 0 false [])))⟩] false [])
   (.keep [1] (.seq
   (.block 0 (.seq
    (.region [⟨some 4, none, .faddr 2 (.t 1)⟩,
     ⟨some 5, none, .load 1 false (.t 4)⟩,
     ⟨some 6, none, .bin .eql (.t 5) (.c (.d (.i .i64 1)))⟩,
     ⟨some 3, none, .mov (.t 6)⟩] false [])
    (.keep [1, 3] (.cond (.t 3)
     (.keep [] (.seq
     (.region [⟨some 7, none, .call 94 [.c (.d (.i .i64 0)), .c (.d (.i .i64 9))]⟩,
      ⟨some 2, none, .mov (.t 7)⟩] false [])
     (.ret)))
     (.keep [1] (.seq
     (.region [⟨some 9, none, .faddr 4 (.t 1)⟩,
      ⟨some 10, none, .load 1 false (.t 9)⟩,
      ⟨some 11, none, .bin .eql (.t 10) (.c (.d (.i .i64 1)))⟩,
      ⟨some 12, none, .mov (.t 11)⟩,
      ⟨some 13, (some (3, false)), .faddr 4 (.t 1)⟩,
      ⟨some 14, (some (3, false)), .load 1 false (.t 13)⟩,
      ⟨some 15, (some (3, false)), .bin .eql (.t 14) (.c (.d (.i .i64 4)))⟩,
      ⟨some 16, none, .pick (.t 12) (.c (.d (.b true))) (.t 15)⟩,
      ⟨some 8, none, .mov (.t 16)⟩] false [])
     (.keep [1, 8] (.cond (.t 8)
      (.keep [] (.seq
      (.region [⟨some 17, none, .call 94 [.c (.d (.i .i64 1)), .c (.d (.i .i64 2))]⟩,
       ⟨some 2, none, .mov (.t 17)⟩] false [])
      (.ret)))
      (.keep [1] (.seq
      (.region [⟨some 19, none, .faddr 4 (.t 1)⟩,
       ⟨some 20, none, .load 1 false (.t 19)⟩,
       ⟨some 21, none, .bin .eql (.t 20) (.c (.d (.i .i64 2)))⟩,
       ⟨some 18, none, .mov (.t 21)⟩] false [])
      (.keep [18] (.cond (.t 18)
       (.keep [] (.seq
       (.region [⟨some 22, none, .call 94 [.c (.d (.i .i64 1)), .c (.d (.i .i64 4))]⟩,
        ⟨some 2, none, .mov (.t 22)⟩] false [])
       (.ret)))
       (.skip)))))))))))))
   (.keep [] (.seq
    (.region [⟨some 2, none, .mov (.c (.d (.sl 0 false [])))⟩] false [])
    (.ret)))))⟩

def F96_spindleref2_rising_b0 : SCode :=
  .seq
      (.seq
      (.region [⟨some 5, none, .mov (.t 4)⟩,
       ⟨some 6, none, .bin .lss (.t 5) (.c (.d (.i .i64 11)))⟩] false [])
      (.keep [1, 3, 4, 6] (.cond (.t 6)
       (.skip)
       (.exit 0))))
      (.keep [1, 3, 4] (.seq
      (.block 1 (.seq
       (.region [⟨some 9, none, .mov (.t 4)⟩,
        ⟨some 10, none, .iaddrA 11 1 (.t 1) (.t 9)⟩,
        ⟨some 11, none, .load 1 false (.t 10)⟩] false [])
       (.keep [1, 3, 4, 11] (.cond (.t 11)
        (.keep [1, 3, 4] (.region [⟨some 12, none, .mov (.t 3)⟩,
         ⟨some 13, none, .mov (.t 4)⟩,
         ⟨some 14, none, .lits 1 [.i .i64 0] [(0, 1, .t 13)]⟩,
         ⟨some 15, none, .app 1 8 (.t 12) (.t 14)⟩,
         ⟨some 3, none, .mov (.t 15)⟩] false []))
        (.skip)))))
      (.keep [1, 3, 4] (.region [⟨some 7, none, .mov (.t 4)⟩,
       ⟨some 8, none, .bin .add (.t 7) (.c (.d (.i .i64 1)))⟩,
       ⟨some 4, none, .mov (.t 8)⟩] false []))))
/-- spindle/spindleref2.rising -/
def F96_spindleref2_rising : SFn := ⟨1, true, true, [.tmp 2],
  .seq
   (.region [⟨some 1, none, .box (.t 0)⟩,
    ⟨some 2, none, .mov (.c (.d (.sl 0 false [])))⟩] false [])
   (.keep [1] (.seq
   (.region [⟨some 3, none, .mov (.c (.d (.sl 0 false [])))⟩] false [])
   (.keep [1, 3] (.seq
    (.seq
    (.region [⟨some 4, none, .mov (.c (.d (.i .i64 0)))⟩] false [])
    (.keep [1, 3, 4] (.block 0 (.loop [1, 3, 4] false F96_spindleref2_rising_b0))))
    (.keep [3] (.seq
    (.region [⟨some 16, none, .mov (.t 3)⟩,
     ⟨some 2, none, .mov (.t 16)⟩] false [])
    (.ret)))))))⟩
end Go.Sh
