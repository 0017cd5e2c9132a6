/- Shadow functions of law0, written by tr.py. -/
import Derived.Test.YtnemobbnlacmjaaDoorShBa
namespace Go.Sh
/-- spindle/spindlelaw0.Num -/
def F12_spindlelaw0_Num : SFn := ⟨1, true, true, [.tmp 2],
  .seq
   (.region [⟨some 2, none, .mov (.c (.d (.i .i64 0)))⟩] false [])
   (.keep [0] (.seq
   (.region [⟨some 3, none, .mov (.t 0)⟩,
    ⟨some 2, none, .mov (.t 3)⟩] false [])
   (.ret)))⟩

def F16_spindlelaw0_SameInts_b0 : SCode :=
  .seq
      (.seq
      (.region [⟨some 11, none, .mov (.t 5)⟩,
       ⟨some 12, none, .mov (.t 0)⟩,
       ⟨some 13, none, .len false (.t 12)⟩,
       ⟨some 14, none, .bin .lss (.t 11) (.t 13)⟩] false [])
      (.keep [0, 1, 5, 14] (.cond (.t 14)
       (.skip)
       (.exit 0))))
      (.keep [0, 1, 5] (.seq
      (.block 1 (.seq
       (.region [⟨some 17, none, .mov (.t 0)⟩,
        ⟨some 18, none, .mov (.t 5)⟩,
        ⟨some 19, none, .iaddr 1 (.t 17) (.t 18)⟩,
        ⟨some 20, none, .load 1 false (.t 19)⟩,
        ⟨some 21, none, .mov (.t 1)⟩,
        ⟨some 22, none, .mov (.t 5)⟩,
        ⟨some 23, none, .iaddr 1 (.t 21) (.t 22)⟩,
        ⟨some 24, none, .load 1 false (.t 23)⟩,
        ⟨some 25, none, .bin .neq (.t 20) (.t 24)⟩] true [0, 0, 3, 7, 0, 0, 48, 112, 255])
       (.keep [0, 1, 5, 25] (.cond (.t 25)
        (.keep [] (.seq
        (.region [⟨some 4, none, .mov (.c (.d (.b false)))⟩] false [])
        (.ret)))
        (.skip)))))
      (.keep [0, 1, 5] (.region [⟨some 15, none, .mov (.t 5)⟩,
       ⟨some 16, none, .bin .add (.t 15) (.c (.d (.i .i64 1)))⟩,
       ⟨some 5, none, .mov (.t 16)⟩] false []))))
/-- spindle/spindlelaw0.SameInts -/
def F16_spindlelaw0_SameInts : SFn := ⟨2, true, true, [.tmp 4],
  .seq
   (.region [⟨some 4, none, .mov (.c (.d (.b false)))⟩] false [])
   (.keep [0, 1] (.seq
   (.seq
    (.region [⟨some 6, none, .mov (.t 0)⟩,
     ⟨some 7, none, .len false (.t 6)⟩,
     ⟨some 8, none, .mov (.t 1)⟩,
     ⟨some 9, none, .len false (.t 8)⟩,
     ⟨some 10, none, .bin .neq (.t 7) (.t 9)⟩] false [])
    (.keep [0, 1, 10] (.cond (.t 10)
    (.keep [] (.seq
     (.region [⟨some 4, none, .mov (.c (.d (.b false)))⟩] false [])
     (.ret)))
    (.skip))))
   (.keep [0, 1] (.seq
    (.seq
    (.region [⟨some 5, none, .mov (.c (.d (.i .i64 0)))⟩] false [])
    (.keep [0, 1, 5] (.block 0 (.loop [0, 1, 5] false F16_spindlelaw0_SameInts_b0))))
    (.keep [] (.seq
    (.region [⟨some 4, none, .mov (.c (.d (.b true)))⟩] false [])
    (.ret)))))))⟩

/-- spindle/spindlelaw0.CopyBytes -/
def F35_spindlelaw0_CopyBytes : SFn := ⟨1, true, true, [.tmp 2],
  .seq
   (.region [⟨some 2, none, .mov (.c (.d (.sl 0 false [])))⟩] false [])
   (.keep [0] (.seq
   (.region [⟨some 3, none, .litsO 0 [.i .u8 0] []⟩,
    ⟨some 4, none, .mov (.t 0)⟩,
    ⟨some 5, none, .app 1 1 (.t 3) (.t 4)⟩,
    ⟨some 2, none, .mov (.t 5)⟩] false [])
   (.ret)))⟩

/-- (*spindle/spindlelaw0.Book).Holds -/
def F123_spindlelaw0_Book_Holds : SFn := ⟨1, false, false, [.tmp 2],
  .seq
   (.region [⟨some 2, none, .mov (.c (.d (.b false)))⟩] false [])
   (.keep [0] (.seq
   (.region [⟨some 3, none, .mov (.t 0)⟩,
    ⟨some 4, none, .call 127 [.t 3]⟩] false [])
   (.keep [0] (.seq
    (.region [⟨some 5, none, .mov (.t 0)⟩,
     ⟨some 6, none, .nilChk (.t 5)⟩,
     ⟨some 7, none, .faddr 2 (.t 6)⟩,
     ⟨some 8, none, .load 1 false (.t 7)⟩,
     ⟨some 9, none, .un .not (.t 8)⟩,
     ⟨some 10, none, .mov (.t 9)⟩,
     ⟨some 11, (some (5, true)), .mov (.t 0)⟩,
     ⟨some 12, (some (5, true)), .call 128 [.t 11]⟩,
     ⟨some 13, none, .pick (.t 10) (.t 12) (.c (.d (.b false)))⟩,
     ⟨some 2, none, .mov (.t 13)⟩] false [])
    (.ret)))))⟩

/-- (*spindle/spindlelaw0.Book).Own -/
def F126_spindlelaw0_Book_Own : SFn := ⟨3, false, false, [],
  .seq
   (.region [⟨some 6, none, .mov (.t 0)⟩,
    ⟨some 7, none, .nilChk (.t 6)⟩,
    ⟨some 8, none, .faddr 0 (.t 7)⟩,
    ⟨some 9, none, .load 1 false (.t 8)⟩,
    ⟨some 10, none, .bin .add (.t 9) (.c (.d (.i .i64 1)))⟩,
    ⟨some 11, none, .nilChk (.t 6)⟩,
    ⟨some 12, none, .faddr 0 (.t 11)⟩,
    ⟨none, none, .store 1 (.t 12) (.t 10)⟩] false [])
   (.keep [0, 1, 2] (.seq
   (.region [⟨some 13, none, .mov (.t 0)⟩,
    ⟨some 14, none, .mov (.t 0)⟩,
    ⟨some 15, none, .nilChk (.t 14)⟩,
    ⟨some 16, none, .faddr 1 (.t 15)⟩,
    ⟨some 17, none, .load 1 false (.t 16)⟩,
    ⟨some 18, none, .mov (.t 1)⟩,
    ⟨some 19, none, .len false (.t 18)⟩,
    ⟨some 20, none, .bin .add (.t 17) (.t 19)⟩,
    ⟨some 21, none, .nilChk (.t 13)⟩,
    ⟨some 22, none, .faddr 1 (.t 21)⟩,
    ⟨none, none, .store 1 (.t 22) (.t 20)⟩] false [])
   (.keep [0, 1, 2] (.seq
    (.region [⟨some 23, none, .mov (.t 0)⟩,
     ⟨some 24, none, .mov (.t 0)⟩,
     ⟨some 25, none, .nilChk (.t 24)⟩,
     ⟨some 26, none, .faddr 3 (.t 25)⟩,
     ⟨some 27, none, .load 1 false (.t 26)⟩,
     ⟨some 28, none, .mov (.t 1)⟩,
     ⟨some 29, none, .litsR 1 [.sl 0 false []] [(0, 1, .t 28)]⟩,
     ⟨some 30, none, .appR 1 24 [.sl 0 false []] (.t 27) (.t 29)⟩,
     ⟨some 31, none, .nilChk (.t 23)⟩,
     ⟨some 32, none, .faddr 3 (.t 31)⟩,
     ⟨none, none, .store 1 (.t 32) (.t 30)⟩] false [])
    (.keep [0, 1, 2] (.seq
    (.region [⟨some 33, none, .mov (.t 0)⟩,
     ⟨some 34, none, .mov (.t 0)⟩,
     ⟨some 35, none, .nilChk (.t 34)⟩,
     ⟨some 36, none, .faddr 4 (.t 35)⟩,
     ⟨some 37, none, .load 1 false (.t 36)⟩,
     ⟨some 38, none, .mov (.t 1)⟩,
     ⟨some 39, none, .call 35 [.t 38]⟩,
     ⟨some 40, none, .lits 1 [.sl 0 false []] [(0, 1, .t 39)]⟩,
     ⟨some 41, none, .appR 1 24 [.sl 0 false []] (.t 37) (.t 40)⟩,
     ⟨some 42, none, .nilChk (.t 33)⟩,
     ⟨some 43, none, .faddr 4 (.t 42)⟩,
     ⟨none, none, .store 1 (.t 43) (.t 41)⟩] true [0, 0, 2, 6, 14, 0, 32, 96, 254, 511, 1023, 2047])
    (.keep [0, 2] (.seq
     (.region [⟨some 44, none, .mov (.t 0)⟩,
      ⟨some 45, none, .mov (.t 0)⟩,
      ⟨some 46, none, .nilChk (.t 45)⟩,
      ⟨some 47, none, .faddr 5 (.t 46)⟩,
      ⟨some 48, none, .load 1 false (.t 47)⟩,
      ⟨some 49, none, .mov (.t 2)⟩,
      ⟨some 50, none, .mov (.t 0)⟩,
      ⟨some 51, none, .nilChk (.t 50)⟩,
      ⟨some 52, none, .faddr 0 (.t 51)⟩,
      ⟨some 53, none, .load 1 false (.t 52)⟩,
      ⟨some 54, none, .bin .mul (.c (.d (.i .i64 31))) (.t 53)⟩,
      ⟨some 55, none, .bin .add (.t 49) (.t 54)⟩,
      ⟨some 56, none, .lits 1 [.i .i64 0] [(0, 1, .t 55)]⟩,
      ⟨some 57, none, .appR 1 8 [.i .i64 0] (.t 48) (.t 56)⟩,
      ⟨some 58, none, .nilChk (.t 44)⟩,
      ⟨some 59, none, .faddr 5 (.t 58)⟩,
      ⟨none, none, .store 1 (.t 59) (.t 57)⟩] true [0, 0, 2, 6, 14, 0, 0, 64, 192, 448, 960, 2016, 4064, 8190, 16383, 32767, 65535])
     (.keep [0] (.seq
     (.region [⟨some 60, none, .mov (.t 0)⟩,
      ⟨some 61, none, .nilChk (.t 60)⟩,
      ⟨some 62, none, .faddr 3 (.t 61)⟩,
      ⟨some 63, none, .load 1 false (.t 62)⟩,
      ⟨some 64, none, .len false (.t 63)⟩,
      ⟨some 65, none, .bin .geq (.t 64) (.c (.d (.i .i64 3)))⟩,
      ⟨some 66, none, .mov (.t 65)⟩,
      ⟨some 67, (some (6, false)), .mov (.t 0)⟩,
      ⟨some 68, (some (6, false)), .nilChk (.t 67)⟩,
      ⟨some 69, (some (6, false)), .faddr 3 (.t 68)⟩,
      ⟨some 70, (some (6, false)), .load 1 false (.t 69)⟩,
      ⟨some 71, (some (6, false)), .len false (.t 70)⟩,
      ⟨some 72, (some (6, false)), .bin .eql (.t 71) (.c (.d (.i .i64 1)))⟩,
      ⟨some 73, (some (6, false)), .mov (.t 72)⟩,
      ⟨some 74, (some (13, true)), .mov (.t 0)⟩,
      ⟨some 75, (some (13, true)), .nilChk (.t 74)⟩,
      ⟨some 76, (some (13, true)), .faddr 0 (.t 75)⟩,
      ⟨some 77, (some (13, true)), .load 1 false (.t 76)⟩,
      ⟨some 78, (some (13, true)), .bin .rem (.t 77) (.c (.d (.i .i64 4)))⟩,
      ⟨some 79, (some (13, true)), .bin .eql (.t 78) (.c (.d (.i .i64 0)))⟩,
      ⟨some 80, (some (6, false)), .pick (.t 73) (.t 79) (.c (.d (.b false)))⟩,
      ⟨some 81, none, .pick (.t 66) (.c (.d (.b true))) (.t 80)⟩] false [])
     (.keep [0, 81] (.cond (.t 81)
      (.keep [0] (.region [⟨some 82, none, .mov (.t 0)⟩,
       ⟨some 83, none, .call 130 [.t 82]⟩] false []))
      (.skip)))))))))))))⟩

def F127_spindlelaw0_Book_untouched_b0 : SCode :=
  .seq
    (.seq
     (.region [⟨some 3, none, .mov (.t 2)⟩,
      ⟨some 4, none, .mov (.t 0)⟩,
      ⟨some 5, none, .nilChk (.t 4)⟩,
      ⟨some 6, none, .faddr 3 (.t 5)⟩,
      ⟨some 7, none, .load 1 false (.t 6)⟩,
      ⟨some 8, none, .len false (.t 7)⟩,
      ⟨some 9, none, .bin .lss (.t 3) (.t 8)⟩] false [])
     (.keep [0, 2, 9] (.cond (.t 9)
     (.skip)
     (.exit 0))))
    (.keep [0, 2] (.seq
     (.block 1 (.region [⟨some 12, none, .mov (.t 0)⟩,
      ⟨some 13, none, .mov (.t 0)⟩,
      ⟨some 14, none, .nilChk (.t 13)⟩,
      ⟨some 15, none, .faddr 2 (.t 14)⟩,
      ⟨some 16, none, .load 1 false (.t 15)⟩,
      ⟨some 17, none, .mov (.t 16)⟩,
      ⟨some 18, (some (5, false)), .mov (.t 0)⟩,
      ⟨some 19, (some (5, false)), .nilChk (.t 18)⟩,
      ⟨some 20, (some (5, false)), .faddr 3 (.t 19)⟩,
      ⟨some 21, (some (5, false)), .load 1 false (.t 20)⟩,
      ⟨some 22, (some (5, false)), .mov (.t 2)⟩,
      ⟨some 23, (some (5, false)), .iaddr 1 (.t 21) (.t 22)⟩,
      ⟨some 24, (some (5, false)), .load 1 false (.t 23)⟩,
      ⟨some 25, (some (5, false)), .b2s (.t 24)⟩,
      ⟨some 26, (some (5, false)), .mov (.t 0)⟩,
      ⟨some 27, (some (5, false)), .nilChk (.t 26)⟩,
      ⟨some 28, (some (5, false)), .faddr 4 (.t 27)⟩,
      ⟨some 29, (some (5, false)), .load 1 false (.t 28)⟩,
      ⟨some 30, (some (5, false)), .mov (.t 2)⟩,
      ⟨some 31, (some (5, false)), .iaddr 1 (.t 29) (.t 30)⟩,
      ⟨some 32, (some (5, false)), .load 1 false (.t 31)⟩,
      ⟨some 33, (some (5, false)), .b2s (.t 32)⟩,
      ⟨some 34, (some (5, false)), .bin .neq (.t 25) (.t 33)⟩,
      ⟨some 35, none, .pick (.t 17) (.c (.d (.b true))) (.t 34)⟩,
      ⟨some 36, none, .nilChk (.t 12)⟩,
      ⟨some 37, none, .faddr 2 (.t 36)⟩,
      ⟨none, none, .store 1 (.t 37) (.t 35)⟩] true [0, 0, 2, 6, 14, 30, 62, 126, 254, 510, 62, 2046, 4094, 8190, 62, 16446, 49214, 114750, 62, 507966, 1032254, 2080830, 4194302, 8388606, 16777215, 33554431, 67108863]))
     (.keep [0, 2] (.region [⟨some 10, none, .mov (.t 2)⟩,
      ⟨some 11, none, .bin .add (.t 10) (.c (.d (.i .i64 1)))⟩,
      ⟨some 2, none, .mov (.t 11)⟩] false []))))
/-- (*spindle/spindlelaw0.Book).untouched -/
def F127_spindlelaw0_Book_untouched : SFn := ⟨1, false, false, [],
  .seq
   (.region [⟨some 2, none, .mov (.c (.d (.i .i64 0)))⟩] false [])
   (.keep [0, 2] (.block 0 (.loop [0, 2] false F127_spindlelaw0_Book_untouched_b0)))⟩

def F128_spindlelaw0_Book_same_b0 : SCode :=
  .seq
     (.seq
      (.region [⟨some 4, none, .mov (.t 3)⟩,
       ⟨some 5, none, .mov (.t 0)⟩,
       ⟨some 6, none, .nilChk (.t 5)⟩,
       ⟨some 7, none, .faddr 6 (.t 6)⟩,
       ⟨some 8, none, .load 1 false (.t 7)⟩,
       ⟨some 9, none, .len false (.t 8)⟩,
       ⟨some 10, none, .bin .lss (.t 4) (.t 9)⟩] false [])
      (.keep [0, 3, 10] (.cond (.t 10)
      (.skip)
      (.exit 0))))
     (.keep [0, 3] (.seq
      (.block 1 (.seq
       (.region [⟨some 13, none, .mov (.t 0)⟩,
        ⟨some 14, none, .nilChk (.t 13)⟩,
        ⟨some 15, none, .faddr 6 (.t 14)⟩,
        ⟨some 16, none, .load 1 false (.t 15)⟩,
        ⟨some 17, none, .mov (.t 3)⟩,
        ⟨some 18, none, .iaddr 1 (.t 16) (.t 17)⟩,
        ⟨some 19, none, .load 1 false (.t 18)⟩,
        ⟨some 20, none, .b2s (.t 19)⟩,
        ⟨some 21, none, .mov (.t 0)⟩,
        ⟨some 22, none, .nilChk (.t 21)⟩,
        ⟨some 23, none, .faddr 7 (.t 22)⟩,
        ⟨some 24, none, .load 1 false (.t 23)⟩,
        ⟨some 25, none, .mov (.t 3)⟩,
        ⟨some 26, none, .iaddr 1 (.t 24) (.t 25)⟩,
        ⟨some 27, none, .load 1 false (.t 26)⟩,
        ⟨some 28, none, .b2s (.t 27)⟩,
        ⟨some 29, none, .bin .neq (.t 20) (.t 28)⟩] true [0, 1, 3, 7, 0, 31, 63, 127, 0, 256, 768, 1792, 0, 7936, 16128, 32512, 65535])
       (.keep [0, 3, 29] (.cond (.t 29)
       (.keep [] (.seq
        (.region [⟨some 2, none, .mov (.c (.d (.b false)))⟩] false [])
        (.ret)))
       (.skip)))))
      (.keep [0, 3] (.region [⟨some 11, none, .mov (.t 3)⟩,
       ⟨some 12, none, .bin .add (.t 11) (.c (.d (.i .i64 1)))⟩,
       ⟨some 3, none, .mov (.t 12)⟩] false []))))
/-- (*spindle/spindlelaw0.Book).same -/
def F128_spindlelaw0_Book_same : SFn := ⟨1, false, false, [.tmp 2],
  .seq
   (.region [⟨some 2, none, .mov (.c (.d (.b false)))⟩] false [])
   (.keep [0] (.seq
   (.seq
    (.region [⟨some 3, none, .mov (.c (.d (.i .i64 0)))⟩] false [])
    (.keep [0, 3] (.block 0 (.loop [0, 3] false F128_spindlelaw0_Book_same_b0))))
   (.keep [] (.seq
    (.region [⟨some 2, none, .mov (.c (.d (.b true)))⟩] false [])
    (.ret)))))⟩

def F130_spindlelaw0_Book_write_b1 : SCode :=
  .seq
         (.seq
         (.region [⟨some 44, none, .mov (.t 4)⟩,
          ⟨some 45, none, .mov (.t 3)⟩,
          ⟨some 46, none, .len false (.t 45)⟩,
          ⟨some 47, none, .bin .lss (.t 44) (.t 46)⟩] false [])
         (.keep [0, 2, 3, 4, 47] (.cond (.t 47)
          (.skip)
          (.exit 2))))
         (.keep [0, 2, 3, 4] (.seq
         (.block 3 (.region [⟨some 50, none, .mov (.t 0)⟩,
           ⟨some 51, none, .nilChk (.t 50)⟩,
           ⟨some 52, none, .faddr 3 (.t 51)⟩,
           ⟨some 53, none, .load 1 false (.t 52)⟩,
           ⟨some 54, none, .mov (.t 2)⟩,
           ⟨some 55, none, .iaddr 1 (.t 53) (.t 54)⟩,
           ⟨some 56, none, .load 1 false (.t 55)⟩,
           ⟨some 57, none, .mov (.t 4)⟩,
           ⟨some 58, none, .mov (.t 3)⟩,
           ⟨some 59, none, .mov (.t 4)⟩,
           ⟨some 60, none, .iaddr 1 (.t 58) (.t 59)⟩,
           ⟨some 61, none, .load 1 false (.t 60)⟩,
           ⟨some 62, none, .iaddr 1 (.t 56) (.t 57)⟩,
           ⟨none, none, .store 1 (.t 62) (.t 61)⟩] true [0, 1, 3, 7, 0, 31, 63, 0, 0, 0, 768, 1792, 4095, 8191]))
         (.keep [0, 2, 3, 4] (.region [⟨some 48, none, .mov (.t 4)⟩,
          ⟨some 49, none, .bin .add (.t 48) (.c (.d (.i .i64 1)))⟩,
          ⟨some 4, none, .mov (.t 49)⟩] false []))))
def F130_spindlelaw0_Book_write_b0 : SCode :=
  .seq
     (.seq
      (.region [⟨some 19, none, .mov (.t 2)⟩,
       ⟨some 20, none, .mov (.t 0)⟩,
       ⟨some 21, none, .nilChk (.t 20)⟩,
       ⟨some 22, none, .faddr 3 (.t 21)⟩,
       ⟨some 23, none, .load 1 false (.t 22)⟩,
       ⟨some 24, none, .len false (.t 23)⟩,
       ⟨some 25, none, .bin .lss (.t 19) (.t 24)⟩] false [])
      (.keep [0, 2, 25] (.cond (.t 25)
      (.skip)
      (.exit 0))))
     (.keep [0, 2] (.seq
      (.block 1 (.seq
       (.region [⟨some 28, none, .mov (.t 0)⟩,
        ⟨some 29, none, .nilChk (.t 28)⟩,
        ⟨some 30, none, .faddr 3 (.t 29)⟩,
        ⟨some 31, none, .load 1 false (.t 30)⟩,
        ⟨some 32, none, .mov (.t 2)⟩,
        ⟨some 33, none, .iaddr 1 (.t 31) (.t 32)⟩,
        ⟨some 34, none, .load 1 false (.t 33)⟩,
        ⟨some 35, none, .len false (.t 34)⟩,
        ⟨some 36, none, .mov (.t 0)⟩,
        ⟨some 37, none, .nilChk (.t 36)⟩,
        ⟨some 38, none, .faddr 5 (.t 37)⟩,
        ⟨some 39, none, .load 1 false (.t 38)⟩,
        ⟨some 40, none, .mov (.t 2)⟩,
        ⟨some 41, none, .iaddr 1 (.t 39) (.t 40)⟩,
        ⟨some 42, none, .load 1 false (.t 41)⟩,
        ⟨some 43, none, .call 131 [.t 35, .t 42]⟩,
        ⟨some 3, none, .mov (.t 43)⟩] true [0, 1, 3, 7, 0, 31, 63, 127, 0, 256, 768, 1792, 0, 7936, 16128, 32767, 65535])
       (.keep [0, 2, 3] (.seq
       (.region [⟨some 4, none, .mov (.c (.d (.i .i64 0)))⟩] false [])
       (.keep [0, 2, 3, 4] (.block 2 (.loop [0, 2, 3, 4] false F130_spindlelaw0_Book_write_b1)))))))
      (.keep [0, 2] (.region [⟨some 26, none, .mov (.t 2)⟩,
       ⟨some 27, none, .bin .add (.t 26) (.c (.d (.i .i64 1)))⟩,
       ⟨some 2, none, .mov (.t 27)⟩] false []))))
def F130_spindlelaw0_Book_write_b3 : SCode :=
  .seq
             (.seq
              (.region [⟨some 124, none, .mov (.t 14)⟩,
               ⟨some 125, none, .mov (.t 12)⟩,
               ⟨some 126, none, .len false (.t 125)⟩,
               ⟨some 127, none, .bin .lss (.t 124) (.t 126)⟩] false [])
              (.keep [0, 5, 6, 7, 9, 10, 11, 12, 13, 14, 127] (.cond (.t 127)
              (.skip)
              (.exit 6))))
             (.keep [0, 5, 6, 7, 9, 10, 11, 12, 13, 14] (.seq
              (.block 7 (.region [⟨some 130, none, .mov (.t 13)⟩,
               ⟨some 131, none, .mov (.t 12)⟩,
               ⟨some 132, none, .mov (.t 14)⟩,
               ⟨some 133, none, .iaddr 1 (.t 131) (.t 132)⟩,
               ⟨some 134, none, .load 1 false (.t 133)⟩,
               ⟨some 135, none, .lits 1 [.i .u8 0] [(0, 1, .t 134)]⟩,
               ⟨some 136, none, .appR 1 1 [.i .u8 0] (.t 130) (.t 135)⟩,
               ⟨some 13, none, .mov (.t 136)⟩] false []))
              (.keep [0, 5, 6, 7, 9, 10, 11, 12, 13, 14] (.region [⟨some 128, none, .mov (.t 14)⟩,
               ⟨some 129, none, .bin .add (.t 128) (.c (.d (.i .i64 1)))⟩,
               ⟨some 14, none, .mov (.t 129)⟩] false []))))
def F130_spindlelaw0_Book_write_b2 : SCode :=
  .seq
      (.seq
       (.region [⟨some 63, none, .mov (.t 6)⟩,
        ⟨some 64, none, .mov (.t 0)⟩,
        ⟨some 65, none, .nilChk (.t 64)⟩,
        ⟨some 66, none, .faddr 3 (.t 65)⟩,
        ⟨some 67, none, .load 1 false (.t 66)⟩,
        ⟨some 68, none, .len false (.t 67)⟩,
        ⟨some 69, none, .bin .lss (.t 63) (.t 68)⟩] false [])
       (.keep [0, 5, 6, 69] (.cond (.t 69)
       (.skip)
       (.exit 4))))
      (.keep [0, 5, 6] (.seq
       (.block 5 (.seq
        (.region [⟨some 72, none, .mov (.t 0)⟩,
         ⟨some 73, none, .nilChk (.t 72)⟩,
         ⟨some 74, none, .faddr 3 (.t 73)⟩,
         ⟨some 75, none, .load 1 false (.t 74)⟩,
         ⟨some 76, none, .mov (.t 6)⟩,
         ⟨some 77, none, .iaddr 1 (.t 75) (.t 76)⟩,
         ⟨some 78, none, .load 1 false (.t 77)⟩,
         ⟨some 7, none, .mov (.t 78)⟩] false [])
        (.keep [0, 5, 6, 7] (.seq
        (.region [⟨some 79, none, .mov (.t 0)⟩,
         ⟨some 80, none, .nilChk (.t 79)⟩,
         ⟨some 81, none, .faddr 5 (.t 80)⟩,
         ⟨some 82, none, .load 1 false (.t 81)⟩,
         ⟨some 83, none, .mov (.t 6)⟩,
         ⟨some 84, none, .iaddr 1 (.t 82) (.t 83)⟩,
         ⟨some 85, none, .load 1 false (.t 84)⟩,
         ⟨some 86, none, .conv .u8 (.t 85)⟩,
         ⟨some 8, none, .mov (.t 86)⟩] false [])
        (.keep [0, 5, 6, 7, 8] (.seq
         (.region [⟨some 87, none, .mov (.t 7)⟩,
          ⟨some 88, none, .mov (.t 8)⟩,
          ⟨some 89, none, .bin .add (.t 88) (.c (.d (.i .u8 101)))⟩,
          ⟨some 90, none, .lits 1 [.i .u8 0] [(0, 1, .t 89)]⟩,
          ⟨some 91, none, .appR 1 1 [.i .u8 0] (.t 87) (.t 90)⟩,
          ⟨some 9, none, .mov (.t 91)⟩] false [])
         (.keep [0, 5, 6, 7, 8, 9] (.seq
         (.region [⟨some 92, none, .mov (.t 7)⟩,
          ⟨some 93, none, .mov (.t 8)⟩,
          ⟨some 94, none, .bin .add (.t 93) (.c (.d (.i .u8 102)))⟩,
          ⟨some 95, none, .mov (.t 8)⟩,
          ⟨some 96, none, .bin .add (.t 95) (.c (.d (.i .u8 103)))⟩,
          ⟨some 97, none, .lits 2 [.i .u8 0] [(0, 1, .t 94), (1, 1, .t 96)]⟩,
          ⟨some 98, none, .appR 1 1 [.i .u8 0] (.t 92) (.t 97)⟩,
          ⟨some 10, none, .mov (.t 98)⟩] false [])
         (.keep [0, 5, 6, 7, 8, 9, 10] (.seq
          (.region [⟨some 99, none, .mov (.t 7)⟩,
           ⟨some 100, none, .mov (.t 8)⟩,
           ⟨some 101, none, .bin .add (.t 100) (.c (.d (.i .u8 104)))⟩,
           ⟨some 102, none, .mov (.t 8)⟩,
           ⟨some 103, none, .bin .add (.t 102) (.c (.d (.i .u8 105)))⟩,
           ⟨some 104, none, .mov (.t 8)⟩,
           ⟨some 105, none, .bin .add (.t 104) (.c (.d (.i .u8 106)))⟩,
           ⟨some 106, none, .lits 3 [.i .u8 0] [(0, 1, .t 101), (1, 1, .t 103), (2, 1, .t 105)]⟩,
           ⟨some 107, none, .appR 1 1 [.i .u8 0] (.t 99) (.t 106)⟩,
           ⟨some 11, none, .mov (.t 107)⟩] false [])
          (.keep [0, 5, 6, 7, 9, 10, 11] (.seq
          (.region [⟨some 108, none, .mov (.t 0)⟩,
           ⟨some 109, none, .nilChk (.t 108)⟩,
           ⟨some 110, none, .faddr 1 (.t 109)⟩,
           ⟨some 111, none, .load 1 false (.t 110)⟩,
           ⟨some 112, none, .mn (.t 111) (.c (.d (.i .i64 3000)))⟩,
           ⟨some 113, none, .bin .add (.t 112) (.c (.d (.i .i64 70)))⟩,
           ⟨some 114, none, .mov (.t 0)⟩,
           ⟨some 115, none, .nilChk (.t 114)⟩,
           ⟨some 116, none, .faddr 5 (.t 115)⟩,
           ⟨some 117, none, .load 1 false (.t 116)⟩,
           ⟨some 118, none, .mov (.t 6)⟩,
           ⟨some 119, none, .iaddr 1 (.t 117) (.t 118)⟩,
           ⟨some 120, none, .load 1 false (.t 119)⟩,
           ⟨some 121, none, .bin .add (.t 120) (.c (.d (.i .i64 107)))⟩,
           ⟨some 122, none, .call 131 [.t 113, .t 121]⟩,
           ⟨some 12, none, .mov (.t 122)⟩] true [0, 1, 3, 7, 15, 31, 0, 64, 192, 448, 0, 1984, 4032, 8128, 16383, 32767])
          (.keep [0, 5, 6, 7, 9, 10, 11, 12] (.seq
           (.region [⟨some 123, none, .mov (.t 7)⟩,
            ⟨some 13, none, .mov (.t 123)⟩] false [])
           (.keep [0, 5, 6, 7, 9, 10, 11, 12, 13] (.seq
           (.seq
            (.region [⟨some 14, none, .mov (.c (.d (.i .i64 0)))⟩] false [])
            (.keep [0, 5, 6, 7, 9, 10, 11, 12, 13, 14] (.block 6 (.loop [0, 5, 6, 7, 9, 10, 11, 12, 13, 14] false F130_spindlelaw0_Book_write_b3))))
           (.keep [0, 5, 6, 7, 9, 10, 11, 12, 13] (.seq
            (.region [⟨some 137, none, .mov (.t 7)⟩,
             ⟨some 138, none, .mov (.t 12)⟩,
             ⟨some 139, none, .appR 1 1 [.i .u8 0] (.t 137) (.t 138)⟩,
             ⟨some 15, none, .mov (.t 139)⟩] false [])
            (.keep [0, 5, 6, 7, 9, 10, 11, 12, 13, 15] (.seq
            (.region [⟨some 140, none, .mov (.t 5)⟩,
             ⟨some 141, none, .mov (.t 9)⟩,
             ⟨some 142, none, .mov (.t 10)⟩,
             ⟨some 143, none, .mov (.t 11)⟩,
             ⟨some 144, none, .mov (.t 15)⟩,
             ⟨some 145, none, .litsR 4 [.sl 0 false []] [(0, 1, .t 141), (1, 1, .t 142), (2, 1, .t 143), (3, 1, .t 144)]⟩,
             ⟨some 146, none, .appR 1 24 [.sl 0 false []] (.t 140) (.t 145)⟩,
             ⟨some 5, none, .mov (.t 146)⟩] false [])
            (.keep [0, 5, 6, 7, 12, 13] (.seq
             (.region [⟨some 147, none, .mov (.t 0)⟩,
              ⟨some 148, none, .mov (.t 7)⟩,
              ⟨some 149, none, .mov (.t 7)⟩,
              ⟨some 150, none, .len false (.t 149)⟩,
              ⟨some 151, none, .mov (.t 0)⟩,
              ⟨some 152, none, .nilChk (.t 151)⟩,
              ⟨some 153, none, .faddr 5 (.t 152)⟩,
              ⟨some 154, none, .load 1 false (.t 153)⟩,
              ⟨some 155, none, .mov (.t 6)⟩,
              ⟨some 156, none, .iaddr 1 (.t 154) (.t 155)⟩,
              ⟨some 157, none, .load 1 false (.t 156)⟩,
              ⟨some 158, none, .call 131 [.t 150, .t 157]⟩,
              ⟨some 159, none, .call 132 [.t 147, .t 148, .t 158]⟩] false [])
             (.keep [0, 5, 6, 7, 12, 13] (.region [⟨some 160, none, .mov (.t 0)⟩,
              ⟨some 161, none, .mov (.t 13)⟩,
              ⟨some 162, none, .mov (.t 7)⟩,
              ⟨some 163, none, .len false (.t 162)⟩,
              ⟨some 164, none, .mov (.t 0)⟩,
              ⟨some 165, none, .nilChk (.t 164)⟩,
              ⟨some 166, none, .faddr 5 (.t 165)⟩,
              ⟨some 167, none, .load 1 false (.t 166)⟩,
              ⟨some 168, none, .mov (.t 6)⟩,
              ⟨some 169, none, .iaddr 1 (.t 167) (.t 168)⟩,
              ⟨some 170, none, .load 1 false (.t 169)⟩,
              ⟨some 171, none, .call 133 [.t 163, .t 170]⟩,
              ⟨some 172, none, .mov (.t 12)⟩,
              ⟨some 173, none, .appR 1 1 [.i .u8 0] (.t 171) (.t 172)⟩,
              ⟨some 174, none, .call 132 [.t 160, .t 161, .t 173]⟩] false []))))))))))))))))))))))))
       (.keep [0, 5, 6] (.region [⟨some 70, none, .mov (.t 6)⟩,
        ⟨some 71, none, .bin .add (.t 70) (.c (.d (.i .i64 1)))⟩,
        ⟨some 6, none, .mov (.t 71)⟩] false []))))
def F130_spindlelaw0_Book_write_b4 : SCode :=
  .seq
       (.seq
       (.region [⟨some 175, none, .mov (.t 16)⟩,
        ⟨some 176, none, .mov (.t 5)⟩,
        ⟨some 177, none, .len false (.t 176)⟩,
        ⟨some 178, none, .bin .lss (.t 175) (.t 177)⟩] false [])
       (.keep [0, 5, 16, 178] (.cond (.t 178)
        (.skip)
        (.exit 8))))
       (.keep [0, 5, 16] (.seq
       (.block 9 (.region [⟨some 181, none, .mov (.t 0)⟩,
         ⟨some 182, none, .mov (.t 5)⟩,
         ⟨some 183, none, .mov (.t 16)⟩,
         ⟨some 184, none, .iaddr 1 (.t 182) (.t 183)⟩,
         ⟨some 185, none, .load 1 false (.t 184)⟩,
         ⟨some 186, none, .mov (.t 5)⟩,
         ⟨some 187, none, .mov (.t 16)⟩,
         ⟨some 188, none, .iaddr 1 (.t 186) (.t 187)⟩,
         ⟨some 189, none, .load 1 false (.t 188)⟩,
         ⟨some 190, none, .call 35 [.t 189]⟩,
         ⟨some 191, none, .call 132 [.t 181, .t 185, .t 190]⟩] true [0, 0, 0, 6, 14, 0, 0, 96, 224, 480, 1023]))
       (.keep [0, 5, 16] (.region [⟨some 179, none, .mov (.t 16)⟩,
        ⟨some 180, none, .bin .add (.t 179) (.c (.d (.i .i64 1)))⟩,
        ⟨some 16, none, .mov (.t 180)⟩] false []))))
/-- (*spindle/spindlelaw0.Book).write -/
def F130_spindlelaw0_Book_write : SFn := ⟨1, false, false, [],
  .seq
   (.region [⟨some 17, none, .mov (.t 0)⟩,
    ⟨some 18, none, .call 127 [.t 17]⟩] false [])
   (.keep [0] (.seq
   (.seq
    (.region [⟨some 2, none, .mov (.c (.d (.i .i64 0)))⟩] false [])
    (.keep [0, 2] (.block 0 (.loop [0, 2] false F130_spindlelaw0_Book_write_b0))))
   (.keep [0] (.seq
    (.region [⟨some 5, none, .mov (.c (.d (.sl 0 false [])))⟩] false [])
    (.keep [0, 5] (.seq
    (.seq
     (.region [⟨some 6, none, .mov (.c (.d (.i .i64 0)))⟩] false [])
     (.keep [0, 5, 6] (.block 4 (.loop [0, 5, 6] false F130_spindlelaw0_Book_write_b2))))
    (.keep [0, 5] (.seq
     (.seq
     (.region [⟨some 16, none, .mov (.c (.d (.i .i64 0)))⟩] false [])
     (.keep [0, 5, 16] (.block 8 (.loop [0, 5, 16] false F130_spindlelaw0_Book_write_b4))))
     (.keep [0] (.seq
     (.region [⟨some 192, none, .mov (.t 0)⟩,
      ⟨some 193, none, .nilChk (.t 192)⟩,
      ⟨some 194, none, .faddr 3 (.t 193)⟩,
      ⟨none, none, .store 1 (.t 194) (.c (.d (.sl 0 false [])))⟩] false [])
     (.keep [0] (.seq
      (.region [⟨some 195, none, .mov (.t 0)⟩,
       ⟨some 196, none, .nilChk (.t 195)⟩,
       ⟨some 197, none, .faddr 4 (.t 196)⟩,
       ⟨none, none, .store 1 (.t 197) (.c (.d (.sl 0 false [])))⟩] false [])
      (.keep [0] (.seq
      (.region [⟨some 198, none, .mov (.t 0)⟩,
       ⟨some 199, none, .nilChk (.t 198)⟩,
       ⟨some 200, none, .faddr 5 (.t 199)⟩,
       ⟨none, none, .store 1 (.t 200) (.c (.d (.sl 0 false [])))⟩] false [])
      (.keep [0] (.region [⟨some 201, none, .mov (.t 0)⟩,
       ⟨some 202, none, .mov (.t 0)⟩,
       ⟨some 203, none, .nilChk (.t 202)⟩,
       ⟨some 204, none, .faddr 2 (.t 203)⟩,
       ⟨some 205, none, .load 1 false (.t 204)⟩,
       ⟨some 206, none, .mov (.t 205)⟩,
       ⟨some 207, (some (5, false)), .mov (.t 0)⟩,
       ⟨some 208, (some (5, false)), .call 128 [.t 207]⟩,
       ⟨some 209, (some (5, false)), .un .not (.t 208)⟩,
       ⟨some 210, none, .pick (.t 206) (.c (.d (.b true))) (.t 209)⟩,
       ⟨some 211, none, .nilChk (.t 201)⟩,
       ⟨some 212, none, .faddr 2 (.t 211)⟩,
       ⟨none, none, .store 1 (.t 212) (.t 210)⟩] false []))))))))))))))))⟩

def F131_spindlelaw0_marked_b0 : SCode :=
  .seq
      (.seq
      (.region [⟨some 9, none, .mov (.t 6)⟩,
       ⟨some 10, none, .mov (.t 0)⟩,
       ⟨some 11, none, .bin .lss (.t 9) (.t 10)⟩] false [])
      (.keep [0, 1, 5, 6, 11] (.cond (.t 11)
       (.skip)
       (.exit 0))))
      (.keep [0, 1, 5, 6] (.seq
      (.block 1 (.region [⟨some 14, none, .mov (.t 5)⟩,
        ⟨some 15, none, .mov (.t 6)⟩,
        ⟨some 16, none, .mov (.t 1)⟩,
        ⟨some 17, none, .mov (.t 6)⟩,
        ⟨some 18, none, .bin .mul (.c (.d (.i .i64 7))) (.t 17)⟩,
        ⟨some 19, none, .bin .add (.t 16) (.t 18)⟩,
        ⟨some 20, none, .bin .add (.t 19) (.c (.d (.i .i64 1)))⟩,
        ⟨some 21, none, .conv .u8 (.t 20)⟩,
        ⟨some 22, none, .iaddr 1 (.t 14) (.t 15)⟩,
        ⟨none, none, .store 1 (.t 22) (.t 21)⟩] false []))
      (.keep [0, 1, 5, 6] (.region [⟨some 12, none, .mov (.t 6)⟩,
       ⟨some 13, none, .bin .add (.t 12) (.c (.d (.i .i64 1)))⟩,
       ⟨some 6, none, .mov (.t 13)⟩] false []))))
/-- spindle/spindlelaw0.marked -/
def F131_spindlelaw0_marked : SFn := ⟨2, true, true, [.tmp 4],
  .seq
   (.region [⟨some 4, none, .mov (.c (.d (.sl 0 false [])))⟩] false [])
   (.keep [0, 1] (.seq
   (.region [⟨some 7, none, .mov (.t 0)⟩,
    ⟨some 8, none, .mkR 1 [.i .u8 0] (.t 7) (.t 7)⟩,
    ⟨some 5, none, .mov (.t 8)⟩] false [])
   (.keep [0, 1, 5] (.seq
    (.seq
    (.region [⟨some 6, none, .mov (.c (.d (.i .i64 0)))⟩] false [])
    (.keep [0, 1, 5, 6] (.block 0 (.loop [0, 1, 5, 6] false F131_spindlelaw0_marked_b0))))
    (.keep [5] (.seq
    (.region [⟨some 23, none, .mov (.t 5)⟩,
     ⟨some 4, none, .mov (.t 23)⟩] false [])
    (.ret)))))))⟩

/-- (*spindle/spindlelaw0.Book).keep -/
def F132_spindlelaw0_Book_keep : SFn := ⟨3, false, false, [],
  .seq
   (.region [⟨some 6, none, .mov (.t 0)⟩,
    ⟨some 7, none, .mov (.t 0)⟩,
    ⟨some 8, none, .nilChk (.t 7)⟩,
    ⟨some 9, none, .faddr 6 (.t 8)⟩,
    ⟨some 10, none, .load 1 false (.t 9)⟩,
    ⟨some 11, none, .mov (.t 1)⟩,
    ⟨some 12, none, .litsR 1 [.sl 0 false []] [(0, 1, .t 11)]⟩,
    ⟨some 13, none, .appR 1 24 [.sl 0 false []] (.t 10) (.t 12)⟩,
    ⟨some 14, none, .nilChk (.t 6)⟩,
    ⟨some 15, none, .faddr 6 (.t 14)⟩,
    ⟨none, none, .store 1 (.t 15) (.t 13)⟩] false [])
   (.keep [0, 2] (.region [⟨some 16, none, .mov (.t 0)⟩,
    ⟨some 17, none, .mov (.t 0)⟩,
    ⟨some 18, none, .nilChk (.t 17)⟩,
    ⟨some 19, none, .faddr 7 (.t 18)⟩,
    ⟨some 20, none, .load 1 false (.t 19)⟩,
    ⟨some 21, none, .mov (.t 2)⟩,
    ⟨some 22, none, .litsR 1 [.sl 0 false []] [(0, 1, .t 21)]⟩,
    ⟨some 23, none, .appR 1 24 [.sl 0 false []] (.t 20) (.t 22)⟩,
    ⟨some 24, none, .nilChk (.t 16)⟩,
    ⟨some 25, none, .faddr 7 (.t 24)⟩,
    ⟨none, none, .store 1 (.t 25) (.t 23)⟩] false []))⟩

def F133_spindlelaw0_marked_own_b0 : SCode :=
  .seq
      (.seq
      (.region [⟨some 9, none, .mov (.t 6)⟩,
       ⟨some 10, none, .mov (.t 0)⟩,
       ⟨some 11, none, .bin .lss (.t 9) (.t 10)⟩] false [])
      (.keep [0, 1, 5, 6, 11] (.cond (.t 11)
       (.skip)
       (.exit 0))))
      (.keep [0, 1, 5, 6] (.seq
      (.block 1 (.region [⟨some 14, none, .mov (.t 5)⟩,
        ⟨some 15, none, .mov (.t 6)⟩,
        ⟨some 16, none, .mov (.t 1)⟩,
        ⟨some 17, none, .mov (.t 6)⟩,
        ⟨some 18, none, .bin .mul (.c (.d (.i .i64 7))) (.t 17)⟩,
        ⟨some 19, none, .bin .add (.t 16) (.t 18)⟩,
        ⟨some 20, none, .bin .add (.t 19) (.c (.d (.i .i64 1)))⟩,
        ⟨some 21, none, .conv .u8 (.t 20)⟩,
        ⟨some 22, none, .iaddr 1 (.t 14) (.t 15)⟩,
        ⟨none, none, .store 1 (.t 22) (.t 21)⟩] false []))
      (.keep [0, 1, 5, 6] (.region [⟨some 12, none, .mov (.t 6)⟩,
       ⟨some 13, none, .bin .add (.t 12) (.c (.d (.i .i64 1)))⟩,
       ⟨some 6, none, .mov (.t 13)⟩] false []))))
/-- spindle/spindlelaw0.marked!own -/
def F133_spindlelaw0_marked_own : SFn := ⟨2, false, false, [.tmp 4],
  .seq
   (.region [⟨some 4, none, .mov (.c (.d (.sl 0 false [])))⟩] false [])
   (.keep [0, 1] (.seq
   (.region [⟨some 7, none, .mov (.t 0)⟩,
    ⟨some 8, none, .mkR 1 [.i .u8 0] (.t 7) (.t 7)⟩,
    ⟨some 5, none, .mov (.t 8)⟩] false [])
   (.keep [0, 1, 5] (.seq
    (.seq
    (.region [⟨some 6, none, .mov (.c (.d (.i .i64 0)))⟩] false [])
    (.keep [0, 1, 5, 6] (.block 0 (.loop [0, 1, 5, 6] false F133_spindlelaw0_marked_own_b0))))
    (.keep [5] (.seq
    (.region [⟨some 23, none, .mov (.t 5)⟩,
     ⟨some 4, none, .mov (.t 23)⟩] false [])
    (.ret)))))))⟩

/-- (*spindle/spindlelaw0.Nums).Own -/
def F226_spindlelaw0_Nums_Own : SFn := ⟨3, false, false, [],
  .seq
   (.region [⟨some 6, none, .mov (.t 0)⟩,
    ⟨some 7, none, .nilChk (.t 6)⟩,
    ⟨some 8, none, .faddr 0 (.t 7)⟩,
    ⟨some 9, none, .load 1 false (.t 8)⟩,
    ⟨some 10, none, .bin .add (.t 9) (.c (.d (.i .i64 1)))⟩,
    ⟨some 11, none, .nilChk (.t 6)⟩,
    ⟨some 12, none, .faddr 0 (.t 11)⟩,
    ⟨none, none, .store 1 (.t 12) (.t 10)⟩] false [])
   (.keep [0, 1, 2] (.seq
   (.region [⟨some 13, none, .mov (.t 0)⟩,
    ⟨some 14, none, .mov (.t 0)⟩,
    ⟨some 15, none, .nilChk (.t 14)⟩,
    ⟨some 16, none, .faddr 1 (.t 15)⟩,
    ⟨some 17, none, .load 1 false (.t 16)⟩,
    ⟨some 18, none, .mov (.t 1)⟩,
    ⟨some 19, none, .len false (.t 18)⟩,
    ⟨some 20, none, .bin .add (.t 17) (.t 19)⟩,
    ⟨some 21, none, .nilChk (.t 13)⟩,
    ⟨some 22, none, .faddr 1 (.t 21)⟩,
    ⟨none, none, .store 1 (.t 22) (.t 20)⟩] false [])
   (.keep [0, 1, 2] (.seq
    (.region [⟨some 23, none, .mov (.t 0)⟩,
     ⟨some 24, none, .mov (.t 0)⟩,
     ⟨some 25, none, .nilChk (.t 24)⟩,
     ⟨some 26, none, .faddr 3 (.t 25)⟩,
     ⟨some 27, none, .load 1 false (.t 26)⟩,
     ⟨some 28, none, .mov (.t 1)⟩,
     ⟨some 29, none, .litsR 1 [.sl 0 false []] [(0, 1, .t 28)]⟩,
     ⟨some 30, none, .appR 1 24 [.sl 0 false []] (.t 27) (.t 29)⟩,
     ⟨some 31, none, .nilChk (.t 23)⟩,
     ⟨some 32, none, .faddr 3 (.t 31)⟩,
     ⟨none, none, .store 1 (.t 32) (.t 30)⟩] false [])
    (.keep [0, 1, 2] (.seq
    (.region [⟨some 33, none, .mov (.t 0)⟩,
     ⟨some 34, none, .mov (.t 0)⟩,
     ⟨some 35, none, .nilChk (.t 34)⟩,
     ⟨some 36, none, .faddr 4 (.t 35)⟩,
     ⟨some 37, none, .load 1 false (.t 36)⟩,
     ⟨some 38, none, .mov (.t 1)⟩,
     ⟨some 39, none, .call 229 [.t 38]⟩,
     ⟨some 40, none, .lits 1 [.sl 0 false []] [(0, 1, .t 39)]⟩,
     ⟨some 41, none, .appR 1 24 [.sl 0 false []] (.t 37) (.t 40)⟩,
     ⟨some 42, none, .nilChk (.t 33)⟩,
     ⟨some 43, none, .faddr 4 (.t 42)⟩,
     ⟨none, none, .store 1 (.t 43) (.t 41)⟩] true [0, 0, 2, 6, 14, 0, 32, 96, 254, 511, 1023, 2047])
    (.keep [0, 2] (.seq
     (.region [⟨some 44, none, .mov (.t 0)⟩,
      ⟨some 45, none, .mov (.t 0)⟩,
      ⟨some 46, none, .nilChk (.t 45)⟩,
      ⟨some 47, none, .faddr 5 (.t 46)⟩,
      ⟨some 48, none, .load 1 false (.t 47)⟩,
      ⟨some 49, none, .mov (.t 2)⟩,
      ⟨some 50, none, .mov (.t 0)⟩,
      ⟨some 51, none, .nilChk (.t 50)⟩,
      ⟨some 52, none, .faddr 0 (.t 51)⟩,
      ⟨some 53, none, .load 1 false (.t 52)⟩,
      ⟨some 54, none, .bin .mul (.c (.d (.i .i64 31))) (.t 53)⟩,
      ⟨some 55, none, .bin .add (.t 49) (.t 54)⟩,
      ⟨some 56, none, .lits 1 [.i .i64 0] [(0, 1, .t 55)]⟩,
      ⟨some 57, none, .appR 1 8 [.i .i64 0] (.t 48) (.t 56)⟩,
      ⟨some 58, none, .nilChk (.t 44)⟩,
      ⟨some 59, none, .faddr 5 (.t 58)⟩,
      ⟨none, none, .store 1 (.t 59) (.t 57)⟩] true [0, 0, 2, 6, 14, 0, 0, 64, 192, 448, 960, 2016, 4064, 8190, 16383, 32767, 65535])
     (.keep [0] (.seq
     (.region [⟨some 60, none, .mov (.t 0)⟩,
      ⟨some 61, none, .nilChk (.t 60)⟩,
      ⟨some 62, none, .faddr 3 (.t 61)⟩,
      ⟨some 63, none, .load 1 false (.t 62)⟩,
      ⟨some 64, none, .len false (.t 63)⟩,
      ⟨some 65, none, .bin .geq (.t 64) (.c (.d (.i .i64 3)))⟩,
      ⟨some 66, none, .mov (.t 65)⟩,
      ⟨some 67, (some (6, false)), .mov (.t 0)⟩,
      ⟨some 68, (some (6, false)), .nilChk (.t 67)⟩,
      ⟨some 69, (some (6, false)), .faddr 3 (.t 68)⟩,
      ⟨some 70, (some (6, false)), .load 1 false (.t 69)⟩,
      ⟨some 71, (some (6, false)), .len false (.t 70)⟩,
      ⟨some 72, (some (6, false)), .bin .eql (.t 71) (.c (.d (.i .i64 1)))⟩,
      ⟨some 73, (some (6, false)), .mov (.t 72)⟩,
      ⟨some 74, (some (13, true)), .mov (.t 0)⟩,
      ⟨some 75, (some (13, true)), .nilChk (.t 74)⟩,
      ⟨some 76, (some (13, true)), .faddr 0 (.t 75)⟩,
      ⟨some 77, (some (13, true)), .load 1 false (.t 76)⟩,
      ⟨some 78, (some (13, true)), .bin .rem (.t 77) (.c (.d (.i .i64 4)))⟩,
      ⟨some 79, (some (13, true)), .bin .eql (.t 78) (.c (.d (.i .i64 0)))⟩,
      ⟨some 80, (some (6, false)), .pick (.t 73) (.t 79) (.c (.d (.b false)))⟩,
      ⟨some 81, none, .pick (.t 66) (.c (.d (.b true))) (.t 80)⟩] false [])
     (.keep [0, 81] (.cond (.t 81)
      (.keep [0] (.region [⟨some 82, none, .mov (.t 0)⟩,
       ⟨some 83, none, .call 230 [.t 82]⟩] false []))
      (.skip)))))))))))))⟩

/-- (*spindle/spindlelaw0.Nums).Holds -/
def F228_spindlelaw0_Nums_Holds : SFn := ⟨1, false, false, [.tmp 2],
  .seq
   (.region [⟨some 2, none, .mov (.c (.d (.b false)))⟩] false [])
   (.keep [0] (.seq
   (.region [⟨some 3, none, .mov (.t 0)⟩,
    ⟨some 4, none, .call 231 [.t 3]⟩] false [])
   (.keep [0] (.seq
    (.region [⟨some 5, none, .mov (.t 0)⟩,
     ⟨some 6, none, .nilChk (.t 5)⟩,
     ⟨some 7, none, .faddr 2 (.t 6)⟩,
     ⟨some 8, none, .load 1 false (.t 7)⟩,
     ⟨some 9, none, .un .not (.t 8)⟩,
     ⟨some 10, none, .mov (.t 9)⟩,
     ⟨some 11, (some (5, true)), .mov (.t 0)⟩,
     ⟨some 12, (some (5, true)), .call 232 [.t 11]⟩,
     ⟨some 13, none, .pick (.t 10) (.t 12) (.c (.d (.b false)))⟩,
     ⟨some 2, none, .mov (.t 13)⟩] false [])
    (.ret)))))⟩

/-- spindle/spindlelaw0.CopyInts -/
def F229_spindlelaw0_CopyInts : SFn := ⟨1, true, true, [.tmp 2],
  .seq
   (.region [⟨some 2, none, .mov (.c (.d (.sl 0 false [])))⟩] false [])
   (.keep [0] (.seq
   (.region [⟨some 3, none, .litsO 0 [.i .i64 0] []⟩,
    ⟨some 4, none, .mov (.t 0)⟩,
    ⟨some 5, none, .app 1 8 (.t 3) (.t 4)⟩,
    ⟨some 2, none, .mov (.t 5)⟩] false [])
   (.ret)))⟩

def F230_spindlelaw0_Nums_write_b1 : SCode :=
  .seq
         (.seq
         (.region [⟨some 44, none, .mov (.t 4)⟩,
          ⟨some 45, none, .mov (.t 3)⟩,
          ⟨some 46, none, .len false (.t 45)⟩,
          ⟨some 47, none, .bin .lss (.t 44) (.t 46)⟩] false [])
         (.keep [0, 2, 3, 4, 47] (.cond (.t 47)
          (.skip)
          (.exit 2))))
         (.keep [0, 2, 3, 4] (.seq
         (.block 3 (.region [⟨some 50, none, .mov (.t 0)⟩,
           ⟨some 51, none, .nilChk (.t 50)⟩,
           ⟨some 52, none, .faddr 3 (.t 51)⟩,
           ⟨some 53, none, .load 1 false (.t 52)⟩,
           ⟨some 54, none, .mov (.t 2)⟩,
           ⟨some 55, none, .iaddr 1 (.t 53) (.t 54)⟩,
           ⟨some 56, none, .load 1 false (.t 55)⟩,
           ⟨some 57, none, .mov (.t 4)⟩,
           ⟨some 58, none, .mov (.t 3)⟩,
           ⟨some 59, none, .mov (.t 4)⟩,
           ⟨some 60, none, .iaddr 1 (.t 58) (.t 59)⟩,
           ⟨some 61, none, .load 1 false (.t 60)⟩,
           ⟨some 62, none, .iaddr 1 (.t 56) (.t 57)⟩,
           ⟨none, none, .store 1 (.t 62) (.t 61)⟩] true [0, 1, 3, 7, 0, 31, 63, 0, 0, 0, 768, 1792, 4095, 8191]))
         (.keep [0, 2, 3, 4] (.region [⟨some 48, none, .mov (.t 4)⟩,
          ⟨some 49, none, .bin .add (.t 48) (.c (.d (.i .i64 1)))⟩,
          ⟨some 4, none, .mov (.t 49)⟩] false []))))
def F230_spindlelaw0_Nums_write_b0 : SCode :=
  .seq
     (.seq
      (.region [⟨some 19, none, .mov (.t 2)⟩,
       ⟨some 20, none, .mov (.t 0)⟩,
       ⟨some 21, none, .nilChk (.t 20)⟩,
       ⟨some 22, none, .faddr 3 (.t 21)⟩,
       ⟨some 23, none, .load 1 false (.t 22)⟩,
       ⟨some 24, none, .len false (.t 23)⟩,
       ⟨some 25, none, .bin .lss (.t 19) (.t 24)⟩] false [])
      (.keep [0, 2, 25] (.cond (.t 25)
      (.skip)
      (.exit 0))))
     (.keep [0, 2] (.seq
      (.block 1 (.seq
       (.region [⟨some 28, none, .mov (.t 0)⟩,
        ⟨some 29, none, .nilChk (.t 28)⟩,
        ⟨some 30, none, .faddr 3 (.t 29)⟩,
        ⟨some 31, none, .load 1 false (.t 30)⟩,
        ⟨some 32, none, .mov (.t 2)⟩,
        ⟨some 33, none, .iaddr 1 (.t 31) (.t 32)⟩,
        ⟨some 34, none, .load 1 false (.t 33)⟩,
        ⟨some 35, none, .len false (.t 34)⟩,
        ⟨some 36, none, .mov (.t 0)⟩,
        ⟨some 37, none, .nilChk (.t 36)⟩,
        ⟨some 38, none, .faddr 5 (.t 37)⟩,
        ⟨some 39, none, .load 1 false (.t 38)⟩,
        ⟨some 40, none, .mov (.t 2)⟩,
        ⟨some 41, none, .iaddr 1 (.t 39) (.t 40)⟩,
        ⟨some 42, none, .load 1 false (.t 41)⟩,
        ⟨some 43, none, .call 233 [.t 35, .t 42]⟩,
        ⟨some 3, none, .mov (.t 43)⟩] true [0, 1, 3, 7, 0, 31, 63, 127, 0, 256, 768, 1792, 0, 7936, 16128, 32767, 65535])
       (.keep [0, 2, 3] (.seq
       (.region [⟨some 4, none, .mov (.c (.d (.i .i64 0)))⟩] false [])
       (.keep [0, 2, 3, 4] (.block 2 (.loop [0, 2, 3, 4] false F230_spindlelaw0_Nums_write_b1)))))))
      (.keep [0, 2] (.region [⟨some 26, none, .mov (.t 2)⟩,
       ⟨some 27, none, .bin .add (.t 26) (.c (.d (.i .i64 1)))⟩,
       ⟨some 2, none, .mov (.t 27)⟩] false []))))
def F230_spindlelaw0_Nums_write_b3 : SCode :=
  .seq
             (.seq
              (.region [⟨some 123, none, .mov (.t 14)⟩,
               ⟨some 124, none, .mov (.t 12)⟩,
               ⟨some 125, none, .len false (.t 124)⟩,
               ⟨some 126, none, .bin .lss (.t 123) (.t 125)⟩] false [])
              (.keep [0, 5, 6, 7, 9, 10, 11, 12, 13, 14, 126] (.cond (.t 126)
              (.skip)
              (.exit 6))))
             (.keep [0, 5, 6, 7, 9, 10, 11, 12, 13, 14] (.seq
              (.block 7 (.region [⟨some 129, none, .mov (.t 13)⟩,
               ⟨some 130, none, .mov (.t 12)⟩,
               ⟨some 131, none, .mov (.t 14)⟩,
               ⟨some 132, none, .iaddr 1 (.t 130) (.t 131)⟩,
               ⟨some 133, none, .load 1 false (.t 132)⟩,
               ⟨some 134, none, .lits 1 [.i .i64 0] [(0, 1, .t 133)]⟩,
               ⟨some 135, none, .appR 1 8 [.i .i64 0] (.t 129) (.t 134)⟩,
               ⟨some 13, none, .mov (.t 135)⟩] false []))
              (.keep [0, 5, 6, 7, 9, 10, 11, 12, 13, 14] (.region [⟨some 127, none, .mov (.t 14)⟩,
               ⟨some 128, none, .bin .add (.t 127) (.c (.d (.i .i64 1)))⟩,
               ⟨some 14, none, .mov (.t 128)⟩] false []))))
def F230_spindlelaw0_Nums_write_b2 : SCode :=
  .seq
      (.seq
       (.region [⟨some 63, none, .mov (.t 6)⟩,
        ⟨some 64, none, .mov (.t 0)⟩,
        ⟨some 65, none, .nilChk (.t 64)⟩,
        ⟨some 66, none, .faddr 3 (.t 65)⟩,
        ⟨some 67, none, .load 1 false (.t 66)⟩,
        ⟨some 68, none, .len false (.t 67)⟩,
        ⟨some 69, none, .bin .lss (.t 63) (.t 68)⟩] false [])
       (.keep [0, 5, 6, 69] (.cond (.t 69)
       (.skip)
       (.exit 4))))
      (.keep [0, 5, 6] (.seq
       (.block 5 (.seq
        (.region [⟨some 72, none, .mov (.t 0)⟩,
         ⟨some 73, none, .nilChk (.t 72)⟩,
         ⟨some 74, none, .faddr 3 (.t 73)⟩,
         ⟨some 75, none, .load 1 false (.t 74)⟩,
         ⟨some 76, none, .mov (.t 6)⟩,
         ⟨some 77, none, .iaddr 1 (.t 75) (.t 76)⟩,
         ⟨some 78, none, .load 1 false (.t 77)⟩,
         ⟨some 7, none, .mov (.t 78)⟩] false [])
        (.keep [0, 5, 6, 7] (.seq
        (.region [⟨some 79, none, .mov (.t 0)⟩,
         ⟨some 80, none, .nilChk (.t 79)⟩,
         ⟨some 81, none, .faddr 5 (.t 80)⟩,
         ⟨some 82, none, .load 1 false (.t 81)⟩,
         ⟨some 83, none, .mov (.t 6)⟩,
         ⟨some 84, none, .iaddr 1 (.t 82) (.t 83)⟩,
         ⟨some 85, none, .load 1 false (.t 84)⟩,
         ⟨some 8, none, .mov (.t 85)⟩] false [])
        (.keep [0, 5, 6, 7, 8] (.seq
         (.region [⟨some 86, none, .mov (.t 7)⟩,
          ⟨some 87, none, .mov (.t 8)⟩,
          ⟨some 88, none, .bin .add (.t 87) (.c (.d (.i .i64 101)))⟩,
          ⟨some 89, none, .lits 1 [.i .i64 0] [(0, 1, .t 88)]⟩,
          ⟨some 90, none, .appR 1 8 [.i .i64 0] (.t 86) (.t 89)⟩,
          ⟨some 9, none, .mov (.t 90)⟩] false [])
         (.keep [0, 5, 6, 7, 8, 9] (.seq
         (.region [⟨some 91, none, .mov (.t 7)⟩,
          ⟨some 92, none, .mov (.t 8)⟩,
          ⟨some 93, none, .bin .add (.t 92) (.c (.d (.i .i64 102)))⟩,
          ⟨some 94, none, .mov (.t 8)⟩,
          ⟨some 95, none, .bin .add (.t 94) (.c (.d (.i .i64 103)))⟩,
          ⟨some 96, none, .lits 2 [.i .i64 0] [(0, 1, .t 93), (1, 1, .t 95)]⟩,
          ⟨some 97, none, .appR 1 8 [.i .i64 0] (.t 91) (.t 96)⟩,
          ⟨some 10, none, .mov (.t 97)⟩] false [])
         (.keep [0, 5, 6, 7, 8, 9, 10] (.seq
          (.region [⟨some 98, none, .mov (.t 7)⟩,
           ⟨some 99, none, .mov (.t 8)⟩,
           ⟨some 100, none, .bin .add (.t 99) (.c (.d (.i .i64 104)))⟩,
           ⟨some 101, none, .mov (.t 8)⟩,
           ⟨some 102, none, .bin .add (.t 101) (.c (.d (.i .i64 105)))⟩,
           ⟨some 103, none, .mov (.t 8)⟩,
           ⟨some 104, none, .bin .add (.t 103) (.c (.d (.i .i64 106)))⟩,
           ⟨some 105, none, .lits 3 [.i .i64 0] [(0, 1, .t 100), (1, 1, .t 102), (2, 1, .t 104)]⟩,
           ⟨some 106, none, .appR 1 8 [.i .i64 0] (.t 98) (.t 105)⟩,
           ⟨some 11, none, .mov (.t 106)⟩] false [])
          (.keep [0, 5, 6, 7, 9, 10, 11] (.seq
          (.region [⟨some 107, none, .mov (.t 0)⟩,
           ⟨some 108, none, .nilChk (.t 107)⟩,
           ⟨some 109, none, .faddr 1 (.t 108)⟩,
           ⟨some 110, none, .load 1 false (.t 109)⟩,
           ⟨some 111, none, .mn (.t 110) (.c (.d (.i .i64 3000)))⟩,
           ⟨some 112, none, .bin .add (.t 111) (.c (.d (.i .i64 70)))⟩,
           ⟨some 113, none, .mov (.t 0)⟩,
           ⟨some 114, none, .nilChk (.t 113)⟩,
           ⟨some 115, none, .faddr 5 (.t 114)⟩,
           ⟨some 116, none, .load 1 false (.t 115)⟩,
           ⟨some 117, none, .mov (.t 6)⟩,
           ⟨some 118, none, .iaddr 1 (.t 116) (.t 117)⟩,
           ⟨some 119, none, .load 1 false (.t 118)⟩,
           ⟨some 120, none, .bin .add (.t 119) (.c (.d (.i .i64 107)))⟩,
           ⟨some 121, none, .call 233 [.t 112, .t 120]⟩,
           ⟨some 12, none, .mov (.t 121)⟩] true [0, 1, 3, 7, 15, 31, 0, 64, 192, 448, 0, 1984, 4032, 8128, 16383, 32767])
          (.keep [0, 5, 6, 7, 9, 10, 11, 12] (.seq
           (.region [⟨some 122, none, .mov (.t 7)⟩,
            ⟨some 13, none, .mov (.t 122)⟩] false [])
           (.keep [0, 5, 6, 7, 9, 10, 11, 12, 13] (.seq
           (.seq
            (.region [⟨some 14, none, .mov (.c (.d (.i .i64 0)))⟩] false [])
            (.keep [0, 5, 6, 7, 9, 10, 11, 12, 13, 14] (.block 6 (.loop [0, 5, 6, 7, 9, 10, 11, 12, 13, 14] false F230_spindlelaw0_Nums_write_b3))))
           (.keep [0, 5, 6, 7, 9, 10, 11, 12, 13] (.seq
            (.region [⟨some 136, none, .mov (.t 7)⟩,
             ⟨some 137, none, .mov (.t 12)⟩,
             ⟨some 138, none, .appR 1 8 [.i .i64 0] (.t 136) (.t 137)⟩,
             ⟨some 15, none, .mov (.t 138)⟩] false [])
            (.keep [0, 5, 6, 7, 9, 10, 11, 12, 13, 15] (.seq
            (.region [⟨some 139, none, .mov (.t 5)⟩,
             ⟨some 140, none, .mov (.t 9)⟩,
             ⟨some 141, none, .mov (.t 10)⟩,
             ⟨some 142, none, .mov (.t 11)⟩,
             ⟨some 143, none, .mov (.t 15)⟩,
             ⟨some 144, none, .litsR 4 [.sl 0 false []] [(0, 1, .t 140), (1, 1, .t 141), (2, 1, .t 142), (3, 1, .t 143)]⟩,
             ⟨some 145, none, .appR 1 24 [.sl 0 false []] (.t 139) (.t 144)⟩,
             ⟨some 5, none, .mov (.t 145)⟩] false [])
            (.keep [0, 5, 6, 7, 12, 13] (.seq
             (.region [⟨some 146, none, .mov (.t 0)⟩,
              ⟨some 147, none, .mov (.t 7)⟩,
              ⟨some 148, none, .mov (.t 7)⟩,
              ⟨some 149, none, .len false (.t 148)⟩,
              ⟨some 150, none, .mov (.t 0)⟩,
              ⟨some 151, none, .nilChk (.t 150)⟩,
              ⟨some 152, none, .faddr 5 (.t 151)⟩,
              ⟨some 153, none, .load 1 false (.t 152)⟩,
              ⟨some 154, none, .mov (.t 6)⟩,
              ⟨some 155, none, .iaddr 1 (.t 153) (.t 154)⟩,
              ⟨some 156, none, .load 1 false (.t 155)⟩,
              ⟨some 157, none, .call 233 [.t 149, .t 156]⟩,
              ⟨some 158, none, .call 234 [.t 146, .t 147, .t 157]⟩] false [])
             (.keep [0, 5, 6, 7, 12, 13] (.region [⟨some 159, none, .mov (.t 0)⟩,
              ⟨some 160, none, .mov (.t 13)⟩,
              ⟨some 161, none, .mov (.t 7)⟩,
              ⟨some 162, none, .len false (.t 161)⟩,
              ⟨some 163, none, .mov (.t 0)⟩,
              ⟨some 164, none, .nilChk (.t 163)⟩,
              ⟨some 165, none, .faddr 5 (.t 164)⟩,
              ⟨some 166, none, .load 1 false (.t 165)⟩,
              ⟨some 167, none, .mov (.t 6)⟩,
              ⟨some 168, none, .iaddr 1 (.t 166) (.t 167)⟩,
              ⟨some 169, none, .load 1 false (.t 168)⟩,
              ⟨some 170, none, .call 235 [.t 162, .t 169]⟩,
              ⟨some 171, none, .mov (.t 12)⟩,
              ⟨some 172, none, .appR 1 8 [.i .i64 0] (.t 170) (.t 171)⟩,
              ⟨some 173, none, .call 234 [.t 159, .t 160, .t 172]⟩] false []))))))))))))))))))))))))
       (.keep [0, 5, 6] (.region [⟨some 70, none, .mov (.t 6)⟩,
        ⟨some 71, none, .bin .add (.t 70) (.c (.d (.i .i64 1)))⟩,
        ⟨some 6, none, .mov (.t 71)⟩] false []))))
def F230_spindlelaw0_Nums_write_b4 : SCode :=
  .seq
       (.seq
       (.region [⟨some 174, none, .mov (.t 16)⟩,
        ⟨some 175, none, .mov (.t 5)⟩,
        ⟨some 176, none, .len false (.t 175)⟩,
        ⟨some 177, none, .bin .lss (.t 174) (.t 176)⟩] false [])
       (.keep [0, 5, 16, 177] (.cond (.t 177)
        (.skip)
        (.exit 8))))
       (.keep [0, 5, 16] (.seq
       (.block 9 (.region [⟨some 180, none, .mov (.t 0)⟩,
         ⟨some 181, none, .mov (.t 5)⟩,
         ⟨some 182, none, .mov (.t 16)⟩,
         ⟨some 183, none, .iaddr 1 (.t 181) (.t 182)⟩,
         ⟨some 184, none, .load 1 false (.t 183)⟩,
         ⟨some 185, none, .mov (.t 5)⟩,
         ⟨some 186, none, .mov (.t 16)⟩,
         ⟨some 187, none, .iaddr 1 (.t 185) (.t 186)⟩,
         ⟨some 188, none, .load 1 false (.t 187)⟩,
         ⟨some 189, none, .call 229 [.t 188]⟩,
         ⟨some 190, none, .call 234 [.t 180, .t 184, .t 189]⟩] true [0, 0, 0, 6, 14, 0, 0, 96, 224, 480, 1023]))
       (.keep [0, 5, 16] (.region [⟨some 178, none, .mov (.t 16)⟩,
        ⟨some 179, none, .bin .add (.t 178) (.c (.d (.i .i64 1)))⟩,
        ⟨some 16, none, .mov (.t 179)⟩] false []))))
/-- (*spindle/spindlelaw0.Nums).write -/
def F230_spindlelaw0_Nums_write : SFn := ⟨1, false, false, [],
  .seq
   (.region [⟨some 17, none, .mov (.t 0)⟩,
    ⟨some 18, none, .call 231 [.t 17]⟩] false [])
   (.keep [0] (.seq
   (.seq
    (.region [⟨some 2, none, .mov (.c (.d (.i .i64 0)))⟩] false [])
    (.keep [0, 2] (.block 0 (.loop [0, 2] false F230_spindlelaw0_Nums_write_b0))))
   (.keep [0] (.seq
    (.region [⟨some 5, none, .mov (.c (.d (.sl 0 false [])))⟩] false [])
    (.keep [0, 5] (.seq
    (.seq
     (.region [⟨some 6, none, .mov (.c (.d (.i .i64 0)))⟩] false [])
     (.keep [0, 5, 6] (.block 4 (.loop [0, 5, 6] false F230_spindlelaw0_Nums_write_b2))))
    (.keep [0, 5] (.seq
     (.seq
     (.region [⟨some 16, none, .mov (.c (.d (.i .i64 0)))⟩] false [])
     (.keep [0, 5, 16] (.block 8 (.loop [0, 5, 16] false F230_spindlelaw0_Nums_write_b4))))
     (.keep [0] (.seq
     (.region [⟨some 191, none, .mov (.t 0)⟩,
      ⟨some 192, none, .nilChk (.t 191)⟩,
      ⟨some 193, none, .faddr 3 (.t 192)⟩,
      ⟨none, none, .store 1 (.t 193) (.c (.d (.sl 0 false [])))⟩] false [])
     (.keep [0] (.seq
      (.region [⟨some 194, none, .mov (.t 0)⟩,
       ⟨some 195, none, .nilChk (.t 194)⟩,
       ⟨some 196, none, .faddr 4 (.t 195)⟩,
       ⟨none, none, .store 1 (.t 196) (.c (.d (.sl 0 false [])))⟩] false [])
      (.keep [0] (.seq
      (.region [⟨some 197, none, .mov (.t 0)⟩,
       ⟨some 198, none, .nilChk (.t 197)⟩,
       ⟨some 199, none, .faddr 5 (.t 198)⟩,
       ⟨none, none, .store 1 (.t 199) (.c (.d (.sl 0 false [])))⟩] false [])
      (.keep [0] (.region [⟨some 200, none, .mov (.t 0)⟩,
       ⟨some 201, none, .mov (.t 0)⟩,
       ⟨some 202, none, .nilChk (.t 201)⟩,
       ⟨some 203, none, .faddr 2 (.t 202)⟩,
       ⟨some 204, none, .load 1 false (.t 203)⟩,
       ⟨some 205, none, .mov (.t 204)⟩,
       ⟨some 206, (some (5, false)), .mov (.t 0)⟩,
       ⟨some 207, (some (5, false)), .call 232 [.t 206]⟩,
       ⟨some 208, (some (5, false)), .un .not (.t 207)⟩,
       ⟨some 209, none, .pick (.t 205) (.c (.d (.b true))) (.t 208)⟩,
       ⟨some 210, none, .nilChk (.t 200)⟩,
       ⟨some 211, none, .faddr 2 (.t 210)⟩,
       ⟨none, none, .store 1 (.t 211) (.t 209)⟩] false []))))))))))))))))⟩

def F231_spindlelaw0_Nums_untouched_b0 : SCode :=
  .seq
    (.seq
     (.region [⟨some 3, none, .mov (.t 2)⟩,
      ⟨some 4, none, .mov (.t 0)⟩,
      ⟨some 5, none, .nilChk (.t 4)⟩,
      ⟨some 6, none, .faddr 3 (.t 5)⟩,
      ⟨some 7, none, .load 1 false (.t 6)⟩,
      ⟨some 8, none, .len false (.t 7)⟩,
      ⟨some 9, none, .bin .lss (.t 3) (.t 8)⟩] false [])
     (.keep [0, 2, 9] (.cond (.t 9)
     (.skip)
     (.exit 0))))
    (.keep [0, 2] (.seq
     (.block 1 (.region [⟨some 12, none, .mov (.t 0)⟩,
      ⟨some 13, none, .mov (.t 0)⟩,
      ⟨some 14, none, .nilChk (.t 13)⟩,
      ⟨some 15, none, .faddr 2 (.t 14)⟩,
      ⟨some 16, none, .load 1 false (.t 15)⟩,
      ⟨some 17, none, .mov (.t 16)⟩,
      ⟨some 18, (some (5, false)), .mov (.t 0)⟩,
      ⟨some 19, (some (5, false)), .nilChk (.t 18)⟩,
      ⟨some 20, (some (5, false)), .faddr 3 (.t 19)⟩,
      ⟨some 21, (some (5, false)), .load 1 false (.t 20)⟩,
      ⟨some 22, (some (5, false)), .mov (.t 2)⟩,
      ⟨some 23, (some (5, false)), .iaddr 1 (.t 21) (.t 22)⟩,
      ⟨some 24, (some (5, false)), .load 1 false (.t 23)⟩,
      ⟨some 25, (some (5, false)), .mov (.t 0)⟩,
      ⟨some 26, (some (5, false)), .nilChk (.t 25)⟩,
      ⟨some 27, (some (5, false)), .faddr 4 (.t 26)⟩,
      ⟨some 28, (some (5, false)), .load 1 false (.t 27)⟩,
      ⟨some 29, (some (5, false)), .mov (.t 2)⟩,
      ⟨some 30, (some (5, false)), .iaddr 1 (.t 28) (.t 29)⟩,
      ⟨some 31, (some (5, false)), .load 1 false (.t 30)⟩,
      ⟨some 32, (some (5, false)), .call 16 [.t 24, .t 31]⟩,
      ⟨some 33, (some (5, false)), .un .not (.t 32)⟩,
      ⟨some 34, none, .pick (.t 17) (.c (.d (.b true))) (.t 33)⟩,
      ⟨some 35, none, .nilChk (.t 12)⟩,
      ⟨some 36, none, .faddr 2 (.t 35)⟩,
      ⟨none, none, .store 1 (.t 36) (.t 34)⟩] true [0, 0, 2, 6, 14, 30, 62, 126, 254, 510, 62, 2046, 4094, 62, 8254, 24638, 57406, 62, 254014, 516158, 1048574, 2097150, 4194302, 8388607, 16777215, 33554431]))
     (.keep [0, 2] (.region [⟨some 10, none, .mov (.t 2)⟩,
      ⟨some 11, none, .bin .add (.t 10) (.c (.d (.i .i64 1)))⟩,
      ⟨some 2, none, .mov (.t 11)⟩] false []))))
/-- (*spindle/spindlelaw0.Nums).untouched -/
def F231_spindlelaw0_Nums_untouched : SFn := ⟨1, false, false, [],
  .seq
   (.region [⟨some 2, none, .mov (.c (.d (.i .i64 0)))⟩] false [])
   (.keep [0, 2] (.block 0 (.loop [0, 2] false F231_spindlelaw0_Nums_untouched_b0)))⟩

def F232_spindlelaw0_Nums_same_b0 : SCode :=
  .seq
     (.seq
      (.region [⟨some 4, none, .mov (.t 3)⟩,
       ⟨some 5, none, .mov (.t 0)⟩,
       ⟨some 6, none, .nilChk (.t 5)⟩,
       ⟨some 7, none, .faddr 6 (.t 6)⟩,
       ⟨some 8, none, .load 1 false (.t 7)⟩,
       ⟨some 9, none, .len false (.t 8)⟩,
       ⟨some 10, none, .bin .lss (.t 4) (.t 9)⟩] false [])
      (.keep [0, 3, 10] (.cond (.t 10)
      (.skip)
      (.exit 0))))
     (.keep [0, 3] (.seq
      (.block 1 (.seq
       (.region [⟨some 13, none, .mov (.t 0)⟩,
        ⟨some 14, none, .nilChk (.t 13)⟩,
        ⟨some 15, none, .faddr 6 (.t 14)⟩,
        ⟨some 16, none, .load 1 false (.t 15)⟩,
        ⟨some 17, none, .mov (.t 3)⟩,
        ⟨some 18, none, .iaddr 1 (.t 16) (.t 17)⟩,
        ⟨some 19, none, .load 1 false (.t 18)⟩,
        ⟨some 20, none, .mov (.t 0)⟩,
        ⟨some 21, none, .nilChk (.t 20)⟩,
        ⟨some 22, none, .faddr 7 (.t 21)⟩,
        ⟨some 23, none, .load 1 false (.t 22)⟩,
        ⟨some 24, none, .mov (.t 3)⟩,
        ⟨some 25, none, .iaddr 1 (.t 23) (.t 24)⟩,
        ⟨some 26, none, .load 1 false (.t 25)⟩,
        ⟨some 27, none, .call 16 [.t 19, .t 26]⟩,
        ⟨some 28, none, .un .not (.t 27)⟩] true [0, 1, 3, 7, 0, 31, 63, 0, 128, 384, 896, 0, 3968, 8064, 16383, 32767])
       (.keep [0, 3, 28] (.cond (.t 28)
       (.keep [] (.seq
        (.region [⟨some 2, none, .mov (.c (.d (.b false)))⟩] false [])
        (.ret)))
       (.skip)))))
      (.keep [0, 3] (.region [⟨some 11, none, .mov (.t 3)⟩,
       ⟨some 12, none, .bin .add (.t 11) (.c (.d (.i .i64 1)))⟩,
       ⟨some 3, none, .mov (.t 12)⟩] false []))))
/-- (*spindle/spindlelaw0.Nums).same -/
def F232_spindlelaw0_Nums_same : SFn := ⟨1, false, false, [.tmp 2],
  .seq
   (.region [⟨some 2, none, .mov (.c (.d (.b false)))⟩] false [])
   (.keep [0] (.seq
   (.seq
    (.region [⟨some 3, none, .mov (.c (.d (.i .i64 0)))⟩] false [])
    (.keep [0, 3] (.block 0 (.loop [0, 3] false F232_spindlelaw0_Nums_same_b0))))
   (.keep [] (.seq
    (.region [⟨some 2, none, .mov (.c (.d (.b true)))⟩] false [])
    (.ret)))))⟩

def F233_spindlelaw0_markedInts_b0 : SCode :=
  .seq
      (.seq
      (.region [⟨some 9, none, .mov (.t 6)⟩,
       ⟨some 10, none, .mov (.t 0)⟩,
       ⟨some 11, none, .bin .lss (.t 9) (.t 10)⟩] false [])
      (.keep [0, 1, 5, 6, 11] (.cond (.t 11)
       (.skip)
       (.exit 0))))
      (.keep [0, 1, 5, 6] (.seq
      (.block 1 (.region [⟨some 14, none, .mov (.t 5)⟩,
        ⟨some 15, none, .mov (.t 6)⟩,
        ⟨some 16, none, .mov (.t 1)⟩,
        ⟨some 17, none, .mov (.t 6)⟩,
        ⟨some 18, none, .bin .mul (.c (.d (.i .i64 7))) (.t 17)⟩,
        ⟨some 19, none, .bin .add (.t 16) (.t 18)⟩,
        ⟨some 20, none, .bin .add (.t 19) (.c (.d (.i .i64 1)))⟩,
        ⟨some 21, none, .iaddr 1 (.t 14) (.t 15)⟩,
        ⟨none, none, .store 1 (.t 21) (.t 20)⟩] false []))
      (.keep [0, 1, 5, 6] (.region [⟨some 12, none, .mov (.t 6)⟩,
       ⟨some 13, none, .bin .add (.t 12) (.c (.d (.i .i64 1)))⟩,
       ⟨some 6, none, .mov (.t 13)⟩] false []))))
/-- spindle/spindlelaw0.markedInts -/
def F233_spindlelaw0_markedInts : SFn := ⟨2, true, true, [.tmp 4],
  .seq
   (.region [⟨some 4, none, .mov (.c (.d (.sl 0 false [])))⟩] false [])
   (.keep [0, 1] (.seq
   (.region [⟨some 7, none, .mov (.t 0)⟩,
    ⟨some 8, none, .mkR 8 [.i .i64 0] (.t 7) (.t 7)⟩,
    ⟨some 5, none, .mov (.t 8)⟩] false [])
   (.keep [0, 1, 5] (.seq
    (.seq
    (.region [⟨some 6, none, .mov (.c (.d (.i .i64 0)))⟩] false [])
    (.keep [0, 1, 5, 6] (.block 0 (.loop [0, 1, 5, 6] false F233_spindlelaw0_markedInts_b0))))
    (.keep [5] (.seq
    (.region [⟨some 22, none, .mov (.t 5)⟩,
     ⟨some 4, none, .mov (.t 22)⟩] false [])
    (.ret)))))))⟩

/-- (*spindle/spindlelaw0.Nums).keep -/
def F234_spindlelaw0_Nums_keep : SFn := ⟨3, false, false, [],
  .seq
   (.region [⟨some 6, none, .mov (.t 0)⟩,
    ⟨some 7, none, .mov (.t 0)⟩,
    ⟨some 8, none, .nilChk (.t 7)⟩,
    ⟨some 9, none, .faddr 6 (.t 8)⟩,
    ⟨some 10, none, .load 1 false (.t 9)⟩,
    ⟨some 11, none, .mov (.t 1)⟩,
    ⟨some 12, none, .litsR 1 [.sl 0 false []] [(0, 1, .t 11)]⟩,
    ⟨some 13, none, .appR 1 24 [.sl 0 false []] (.t 10) (.t 12)⟩,
    ⟨some 14, none, .nilChk (.t 6)⟩,
    ⟨some 15, none, .faddr 6 (.t 14)⟩,
    ⟨none, none, .store 1 (.t 15) (.t 13)⟩] false [])
   (.keep [0, 2] (.region [⟨some 16, none, .mov (.t 0)⟩,
    ⟨some 17, none, .mov (.t 0)⟩,
    ⟨some 18, none, .nilChk (.t 17)⟩,
    ⟨some 19, none, .faddr 7 (.t 18)⟩,
    ⟨some 20, none, .load 1 false (.t 19)⟩,
    ⟨some 21, none, .mov (.t 2)⟩,
    ⟨some 22, none, .litsR 1 [.sl 0 false []] [(0, 1, .t 21)]⟩,
    ⟨some 23, none, .appR 1 24 [.sl 0 false []] (.t 20) (.t 22)⟩,
    ⟨some 24, none, .nilChk (.t 16)⟩,
    ⟨some 25, none, .faddr 7 (.t 24)⟩,
    ⟨none, none, .store 1 (.t 25) (.t 23)⟩] false []))⟩

def F235_spindlelaw0_markedInts_own_b0 : SCode :=
  .seq
      (.seq
      (.region [⟨some 9, none, .mov (.t 6)⟩,
       ⟨some 10, none, .mov (.t 0)⟩,
       ⟨some 11, none, .bin .lss (.t 9) (.t 10)⟩] false [])
      (.keep [0, 1, 5, 6, 11] (.cond (.t 11)
       (.skip)
       (.exit 0))))
      (.keep [0, 1, 5, 6] (.seq
      (.block 1 (.region [⟨some 14, none, .mov (.t 5)⟩,
        ⟨some 15, none, .mov (.t 6)⟩,
        ⟨some 16, none, .mov (.t 1)⟩,
        ⟨some 17, none, .mov (.t 6)⟩,
        ⟨some 18, none, .bin .mul (.c (.d (.i .i64 7))) (.t 17)⟩,
        ⟨some 19, none, .bin .add (.t 16) (.t 18)⟩,
        ⟨some 20, none, .bin .add (.t 19) (.c (.d (.i .i64 1)))⟩,
        ⟨some 21, none, .iaddr 1 (.t 14) (.t 15)⟩,
        ⟨none, none, .store 1 (.t 21) (.t 20)⟩] false []))
      (.keep [0, 1, 5, 6] (.region [⟨some 12, none, .mov (.t 6)⟩,
       ⟨some 13, none, .bin .add (.t 12) (.c (.d (.i .i64 1)))⟩,
       ⟨some 6, none, .mov (.t 13)⟩] false []))))
/-- spindle/spindlelaw0.markedInts!own -/
def F235_spindlelaw0_markedInts_own : SFn := ⟨2, false, false, [.tmp 4],
  .seq
   (.region [⟨some 4, none, .mov (.c (.d (.sl 0 false [])))⟩] false [])
   (.keep [0, 1] (.seq
   (.region [⟨some 7, none, .mov (.t 0)⟩,
    ⟨some 8, none, .mkR 8 [.i .i64 0] (.t 7) (.t 7)⟩,
    ⟨some 5, none, .mov (.t 8)⟩] false [])
   (.keep [0, 1, 5] (.seq
    (.seq
    (.region [⟨some 6, none, .mov (.c (.d (.i .i64 0)))⟩] false [])
    (.keep [0, 1, 5, 6] (.block 0 (.loop [0, 1, 5, 6] false F235_spindlelaw0_markedInts_own_b0))))
    (.keep [5] (.seq
    (.region [⟨some 22, none, .mov (.t 5)⟩,
     ⟨some 4, none, .mov (.t 22)⟩] false [])
    (.ret)))))))⟩
end Go.Sh
