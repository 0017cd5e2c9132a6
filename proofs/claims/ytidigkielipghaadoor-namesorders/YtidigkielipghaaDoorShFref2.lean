/- Shadow functions of ref2, written by tr.py. -/
import Derived.Test.YtidigkielipghaaDoorShBa
namespace Go.Sh
/-- spindle/spindleref2.Rows -/
def F17_spindleref2_Rows : SFn := ⟨1, true, true, [.tmp 2],
  .seq
   (.region [⟨some 2, none, .mov (.c (.d (.sl 0 false [])))⟩] false [])
   (.keep [0] (.seq
   (.seq
    (.region [⟨some 6, none, .mov (.t 0)⟩,
     ⟨some 7, none, .bin .lss (.t 6) (.c (.d (.i .i64 0)))⟩,
     ⟨some 8, none, .mov (.t 7)⟩,
     ⟨some 9, (some (2, false)), .mov (.t 0)⟩,
     ⟨some 10, (some (2, false)), .bin .gtr (.t 9) (.c (.d (.i .i64 255)))⟩,
     ⟨some 11, none, .pick (.t 8) (.c (.d (.b true))) (.t 10)⟩] false [])
    (.keep [0, 11] (.cond (.t 11)
    (.keep [] (.seq
     (.region [⟨some 2, none, .mov (.c (.d (.sl 0 false [])))⟩] false [])
     (.ret)))
    (.skip))))
   (.keep [0] (.seq
    (.region [⟨some 12, none, .mov (.t 0)⟩,
     ⟨some 13, none, .bin .rem (.t 12) (.c (.d (.i .i64 8)))⟩,
     ⟨some 3, none, .mov (.t 13)⟩] false [])
    (.keep [0, 3] (.seq
    (.region [⟨some 14, none, .mov (.t 0)⟩,
     ⟨some 15, none, .bin .quo (.t 14) (.c (.d (.i .i64 16)))⟩,
     ⟨some 16, none, .bin .mul (.t 15) (.c (.d (.i .i64 16)))⟩,
     ⟨some 4, none, .mov (.t 16)⟩] false [])
    (.keep [0, 3, 4] (.seq
     (.region [⟨some 17, none, .mov (.t 0)⟩,
      ⟨some 18, none, .bin .quo (.t 17) (.c (.d (.i .i64 8)))⟩,
      ⟨some 19, none, .bin .rem (.t 18) (.c (.d (.i .i64 2)))⟩,
      ⟨some 20, none, .bin .eql (.t 19) (.c (.d (.i .i64 1)))⟩,
      ⟨some 5, none, .mov (.t 20)⟩] false [])
     (.keep [0, 3, 4, 5] (.seq
     (.block 0 (.seq
      (.region [⟨some 22, none, .mov (.t 3)⟩,
       ⟨some 23, none, .bin .eql (.t 22) (.c (.d (.i .i64 4)))⟩,
       ⟨some 24, none, .mov (.t 23)⟩,
       ⟨some 25, (some (2, false)), .mov (.t 3)⟩,
       ⟨some 26, (some (2, false)), .bin .eql (.t 25) (.c (.d (.i .i64 7)))⟩,
       ⟨some 27, none, .pick (.t 24) (.c (.d (.b true))) (.t 26)⟩,
       ⟨some 21, none, .mov (.t 27)⟩] false [])
      (.keep [0, 3, 4, 5, 21] (.cond (.t 21)
       (.keep [3, 4, 5] (.seq
       (.region [⟨some 28, none, .mov (.t 3)⟩,
        ⟨some 29, none, .mov (.t 4)⟩,
        ⟨some 30, none, .mov (.t 5)⟩,
        ⟨some 31, none, .call 19 [.t 28, .t 29, .t 30]⟩,
        ⟨some 2, none, .mov (.t 31)⟩] false [])
       (.ret)))
       (.keep [0, 3, 4, 5] (.seq
       (.region [⟨some 33, none, .mov (.t 3)⟩,
        ⟨some 34, none, .bin .eql (.t 33) (.c (.d (.i .i64 5)))⟩,
        ⟨some 35, none, .mov (.t 34)⟩,
        ⟨some 36, (some (2, false)), .mov (.t 3)⟩,
        ⟨some 37, (some (2, false)), .bin .eql (.t 36) (.c (.d (.i .i64 6)))⟩,
        ⟨some 38, none, .pick (.t 35) (.c (.d (.b true))) (.t 37)⟩,
        ⟨some 32, none, .mov (.t 38)⟩] false [])
       (.keep [0, 3, 4, 5, 32] (.cond (.t 32)
        (.keep [3, 4, 5] (.seq
        (.region [⟨some 39, none, .mov (.t 3)⟩,
         ⟨some 40, none, .mov (.t 4)⟩,
         ⟨some 41, none, .mov (.t 5)⟩,
         ⟨some 42, none, .call 20 [.t 39, .t 40, .t 41]⟩,
         ⟨some 2, none, .mov (.t 42)⟩] false [])
        (.ret)))
        (.skip)))))))))
     (.keep [0] (.seq
      (.region [⟨some 43, none, .mov (.t 0)⟩,
       ⟨some 44, none, .call 21 [.t 43]⟩,
       ⟨some 2, none, .mov (.t 44)⟩] false [])
      (.ret)))))))))))))⟩

def F23_spindleref2_has_b0 : SCode :=
  .seq
     (.seq
      (.region [⟨some 6, none, .mov (.t 5)⟩,
       ⟨some 7, none, .mov (.t 0)⟩,
       ⟨some 8, none, .len false (.t 7)⟩,
       ⟨some 9, none, .bin .lss (.t 6) (.t 8)⟩] false [])
      (.keep [0, 1, 5, 9] (.cond (.t 9)
      (.skip)
      (.exit 0))))
     (.keep [0, 1, 5] (.seq
      (.block 1 (.seq
       (.region [⟨some 12, none, .mov (.t 0)⟩,
        ⟨some 13, none, .mov (.t 5)⟩,
        ⟨some 14, none, .iaddr 1 (.t 12) (.t 13)⟩,
        ⟨some 15, none, .load 1 false (.t 14)⟩,
        ⟨some 16, none, .mov (.t 1)⟩,
        ⟨some 17, none, .bin .eql (.t 15) (.t 16)⟩] false [])
       (.keep [0, 1, 5, 17] (.cond (.t 17)
       (.keep [] (.seq
        (.region [⟨some 4, none, .mov (.c (.d (.b true)))⟩] false [])
        (.ret)))
       (.skip)))))
      (.keep [0, 1, 5] (.region [⟨some 10, none, .mov (.t 5)⟩,
       ⟨some 11, none, .bin .add (.t 10) (.c (.d (.i .i64 1)))⟩,
       ⟨some 5, none, .mov (.t 11)⟩] false []))))
/-- spindle/spindleref2.has -/
def F23_spindleref2_has : SFn := ⟨2, true, true, [.tmp 4],
  .seq
   (.region [⟨some 4, none, .mov (.c (.d (.b false)))⟩] false [])
   (.keep [0, 1] (.seq
   (.seq
    (.region [⟨some 5, none, .mov (.c (.d (.i .i64 0)))⟩] false [])
    (.keep [0, 1, 5] (.block 0 (.loop [0, 1, 5] false F23_spindleref2_has_b0))))
   (.keep [] (.seq
    (.region [⟨some 4, none, .mov (.c (.d (.b false)))⟩] false [])
    (.ret)))))⟩

def F65_spindleref2_May_b0 : SCode :=
  .seq
      (.seq
       (.region [⟨some 11, none, .mov (.t 4)⟩,
        ⟨some 12, none, .mov (.t 3)⟩,
        ⟨some 13, none, .len false (.t 12)⟩,
        ⟨some 14, none, .bin .lss (.t 11) (.t 13)⟩] false [])
       (.keep [1, 3, 4, 14] (.cond (.t 14)
       (.skip)
       (.exit 0))))
      (.keep [1, 3, 4] (.seq
       (.block 1 (.seq
        (.region [⟨some 17, none, .mov (.t 3)⟩,
         ⟨some 18, none, .mov (.t 4)⟩,
         ⟨some 19, none, .iaddr 10 (.t 17) (.t 18)⟩,
         ⟨some 20, none, .load 10 true (.t 19)⟩,
         ⟨some 21, none, .load 5 true (.t 1)⟩,
         ⟨some 22, none, .call 67 [.t 20, .t 21]⟩] true [0, 0, 3, 7, 0, 31])
        (.keep [1, 3, 4, 22] (.cond (.t 22)
        (.keep [] (.seq
         (.region [⟨some 2, none, .mov (.c (.d (.i .i64 0)))⟩] false [])
         (.ret)))
        (.skip)))))
       (.keep [1, 3, 4] (.region [⟨some 15, none, .mov (.t 4)⟩,
        ⟨some 16, none, .bin .add (.t 15) (.c (.d (.i .i64 1)))⟩,
        ⟨some 4, none, .mov (.t 16)⟩] false []))))
/-- spindle/spindleref2.May -/
def F65_spindleref2_May : SFn := ⟨1, true, true, [.tmp 2],
  .seq
   (.region [⟨some 1, none, .box (.t 0)⟩,
    ⟨some 2, none, .mov (.c (.d (.i .i64 0)))⟩] false [])
   (.keep [1] (.seq
   (.region [⟨some 5, none, .faddr 0 (.t 1)⟩,
    ⟨some 6, none, .load 1 false (.t 5)⟩,
    ⟨some 7, none, .call 17 [.t 6]⟩,
    ⟨some 3, none, .mov (.t 7)⟩] false [])
   (.keep [1, 3] (.seq
    (.seq
    (.region [⟨some 8, none, .mov (.t 3)⟩,
     ⟨some 9, none, .len false (.t 8)⟩,
     ⟨some 10, none, .bin .eql (.t 9) (.c (.d (.i .i64 0)))⟩] false [])
    (.keep [1, 3, 10] (.cond (.t 10)
     (.keep [] (.seq
     (.region [⟨some 2, none, .mov (.c (.d (.i .i64 20)))⟩] false [])
     (.ret)))
     (.skip))))
    (.keep [1, 3] (.seq
    (.seq
     (.region [⟨some 4, none, .mov (.c (.d (.i .i64 0)))⟩] false [])
     (.keep [1, 3, 4] (.block 0 (.loop [1, 3, 4] false F65_spindleref2_May_b0))))
    (.keep [] (.seq
     (.region [⟨some 2, none, .mov (.c (.d (.i .i64 21)))⟩] false [])
     (.ret)))))))))⟩

def F67_spindleref2_fits_r0 : List SOper := [⟨some 14, none, .faddr 3 (.t 3)⟩,
  ⟨some 15, none, .load 1 false (.t 14)⟩,
  ⟨some 16, none, .bin .geq (.t 15) (.c (.d (.i .i64 (-32768))))⟩,
  ⟨some 17, none, .mov (.t 16)⟩,
  ⟨some 18, (some (3, true)), .faddr 3 (.t 3)⟩,
  ⟨some 19, (some (3, true)), .load 1 false (.t 18)⟩,
  ⟨some 20, (some (3, true)), .bin .leq (.t 19) (.c (.d (.i .i64 32767)))⟩,
  ⟨some 21, none, .pick (.t 17) (.t 20) (.c (.d (.b false)))⟩,
  ⟨some 5, none, .mov (.t 21)⟩]
def F67_spindleref2_fits_r1 : List SOper := [⟨some 36, none, .faddr 6 (.t 2)⟩,
  ⟨some 37, none, .load 1 false (.t 36)⟩,
  ⟨some 38, none, .mov (.t 37)⟩,
  ⟨some 39, (some (2, false)), .faddr 4 (.t 3)⟩,
  ⟨some 40, (some (2, false)), .load 1 false (.t 39)⟩,
  ⟨some 41, (some (2, false)), .bin .geq (.t 40) (.c (.d (.i .i64 (-2147483648))))⟩,
  ⟨some 42, (some (2, false)), .mov (.t 41)⟩,
  ⟨some 43, (some (6, true)), .faddr 4 (.t 3)⟩,
  ⟨some 44, (some (6, true)), .load 1 false (.t 43)⟩,
  ⟨some 45, (some (6, true)), .bin .leq (.t 44) (.c (.d (.i .i64 2147483647)))⟩,
  ⟨some 46, (some (2, false)), .pick (.t 42) (.t 45) (.c (.d (.b false)))⟩,
  ⟨some 47, none, .pick (.t 38) (.c (.d (.b true))) (.t 46)⟩,
  ⟨some 6, none, .mov (.t 47)⟩]
def F67_spindleref2_fits_r2 : List SOper := [⟨some 48, none, .mov (.t 5)⟩,
  ⟨some 49, none, .mov (.t 48)⟩,
  ⟨some 50, (some (1, true)), .mov (.t 6)⟩,
  ⟨some 51, none, .pick (.t 49) (.t 50) (.c (.d (.b false)))⟩,
  ⟨some 52, none, .mov (.t 51)⟩,
  ⟨some 53, (some (4, true)), .faddr 2 (.t 2)⟩,
  ⟨some 54, (some (4, true)), .load 1 false (.t 53)⟩,
  ⟨some 55, (some (4, true)), .faddr 1 (.t 3)⟩,
  ⟨some 56, (some (4, true)), .load 1 false (.t 55)⟩,
  ⟨some 57, (some (4, true)), .call 68 [.t 54, .c (.d (.i .i64 0)), .t 56]⟩,
  ⟨some 58, none, .pick (.t 52) (.t 57) (.c (.d (.b false)))⟩,
  ⟨some 59, none, .mov (.t 58)⟩,
  ⟨some 60, (some (11, true)), .faddr 3 (.t 2)⟩,
  ⟨some 61, (some (11, true)), .load 1 false (.t 60)⟩,
  ⟨some 62, (some (11, true)), .faddr 7 (.t 2)⟩,
  ⟨some 63, (some (11, true)), .load 1 false (.t 62)⟩,
  ⟨some 64, (some (11, true)), .faddr 2 (.t 3)⟩,
  ⟨some 65, (some (11, true)), .load 1 false (.t 64)⟩,
  ⟨some 66, (some (11, true)), .call 68 [.t 61, .t 63, .t 65]⟩,
  ⟨some 67, none, .pick (.t 59) (.t 66) (.c (.d (.b false)))⟩,
  ⟨some 4, none, .mov (.t 67)⟩]
/-- spindle/spindleref2.fits -/
def F67_spindleref2_fits : SFn := ⟨2, true, true, [.tmp 4],
  .seq
   (.region [⟨some 2, none, .box (.t 0)⟩,
    ⟨some 3, none, .box (.t 1)⟩,
    ⟨some 4, none, .mov (.c (.d (.b false)))⟩] false [])
   (.keep [2, 3] (.seq
   (.region [⟨some 7, none, .faddr 3 (.t 3)⟩,
    ⟨some 8, none, .load 1 false (.t 7)⟩,
    ⟨some 9, none, .faddr 8 (.t 2)⟩,
    ⟨some 10, none, .load 1 false (.t 9)⟩,
    ⟨some 11, none, .bin .eql (.t 8) (.t 10)⟩,
    ⟨some 5, none, .mov (.t 11)⟩] false [])
   (.keep [2, 3, 5] (.seq
    (.seq
    (.region [⟨some 12, none, .faddr 4 (.t 2)⟩,
     ⟨some 13, none, .load 1 false (.t 12)⟩] false [])
    (.keep [2, 3, 5, 13] (.cond (.t 13)
     (.keep [2, 3] (.region F67_spindleref2_fits_r0 false []))
     (.skip))))
    (.keep [2, 3, 5] (.seq
    (.region [⟨some 22, none, .faddr 4 (.t 3)⟩,
     ⟨some 23, none, .load 1 false (.t 22)⟩,
     ⟨some 24, none, .bin .eql (.t 23) (.c (.d (.i .i64 0)))⟩,
     ⟨some 6, none, .mov (.t 24)⟩] false [])
    (.keep [2, 3, 5, 6] (.seq
     (.seq
     (.region [⟨some 25, none, .faddr 9 (.t 2)⟩,
      ⟨some 26, none, .load 1 false (.t 25)⟩,
      ⟨some 27, none, .len false (.t 26)⟩,
      ⟨some 28, none, .bin .gtr (.t 27) (.c (.d (.i .i64 0)))⟩] false [])
     (.keep [2, 3, 5, 6, 28] (.cond (.t 28)
      (.keep [2, 3, 5] (.region [⟨some 29, none, .faddr 9 (.t 2)⟩,
       ⟨some 30, none, .load 1 false (.t 29)⟩,
       ⟨some 31, none, .faddr 4 (.t 3)⟩,
       ⟨some 32, none, .load 1 false (.t 31)⟩,
       ⟨some 33, none, .call 23 [.t 30, .t 32]⟩,
       ⟨some 6, none, .mov (.t 33)⟩] false []))
      (.skip))))
     (.keep [2, 3, 5, 6] (.seq
     (.seq
      (.region [⟨some 34, none, .faddr 5 (.t 2)⟩,
       ⟨some 35, none, .load 1 false (.t 34)⟩] false [])
      (.keep [2, 3, 5, 6, 35] (.cond (.t 35)
      (.keep [2, 3, 5] (.region F67_spindleref2_fits_r1 false []))
      (.skip))))
     (.keep [2, 3, 5, 6] (.seq
      (.region F67_spindleref2_fits_r2 false [])
      (.ret)))))))))))))⟩

def F68_spindleref2_register_r0 : List SOper := [⟨some 8, none, .mov (.t 2)⟩,
  ⟨some 9, none, .bin .geq (.t 8) (.c (.d (.i .i64 0)))⟩,
  ⟨some 10, none, .mov (.t 9)⟩,
  ⟨some 11, (some (2, true)), .mov (.t 2)⟩,
  ⟨some 12, (some (2, true)), .bin .leq (.t 11) (.c (.d (.i .i64 10)))⟩,
  ⟨some 13, none, .pick (.t 10) (.t 12) (.c (.d (.b false)))⟩,
  ⟨some 6, none, .mov (.t 13)⟩]
/-- spindle/spindleref2.register -/
def F68_spindleref2_register : SFn := ⟨3, true, true, [.tmp 6],
  .seq
   (.region [⟨some 6, none, .mov (.c (.d (.b false)))⟩] false [])
   (.keep [0, 1, 2] (.seq
   (.seq
    (.region [⟨some 7, none, .mov (.t 0)⟩] false [])
    (.keep [1, 2, 7] (.cond (.t 7)
    (.keep [2] (.seq
     (.region F68_spindleref2_register_r0 false [])
     (.ret)))
    (.skip))))
   (.keep [1, 2] (.seq
    (.region [⟨some 14, none, .mov (.t 2)⟩,
     ⟨some 15, none, .mov (.t 1)⟩,
     ⟨some 16, none, .bin .eql (.t 14) (.t 15)⟩,
     ⟨some 6, none, .mov (.t 16)⟩] false [])
    (.ret)))))⟩

end Go.Sh
