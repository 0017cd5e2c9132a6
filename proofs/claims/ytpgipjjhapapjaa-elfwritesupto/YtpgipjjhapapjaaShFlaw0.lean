/- Shadow functions of law0, written by tr.py. -/
import Derived.Test.YtpgipjjhapapjaaShBa
namespace Go.Sh
/-- spindle/spindlelaw0.Num -/
def F12_spindlelaw0_Num : SFn := ⟨1, true, true, [.tmp 2],
  .seq
   (.region [⟨some 2, none, .mov (.c (.d (.i .i64 0)))⟩] false [])
   (.keep [0] (.seq
   (.region [⟨some 3, none, .mov (.t 0)⟩,
    ⟨some 2, none, .mov (.t 3)⟩] false [])
   (.ret)))⟩

/-- spindle/spindlelaw0.CopyBytes -/
def F35_spindlelaw0_CopyBytes : SFn := ⟨1, true, true, [.tmp 2],
  .seq
   (.region [⟨some 2, none, .mov (.c (.d (.sl 0 false [])))⟩] false [])
   (.keep [0] (.seq
   (.region [⟨some 3, none, .litsO 0 [.i .u8 0] []⟩,
    ⟨some 4, none, .mov (.t 0)⟩,
    ⟨some 5, none, .app 1 1 (.t 3) (.t 4)⟩,
    ⟨some 2, none, .mov (.t 5)⟩] false [])
   (.ret)))⟩

/-- spindle/spindlelaw0.SameBytes -/
def F73_spindlelaw0_SameBytes : SFn := ⟨2, true, true, [.tmp 4],
  .seq
   (.region [⟨some 4, none, .mov (.c (.d (.b false)))⟩] false [])
   (.keep [0, 1] (.seq
   (.region [⟨some 5, none, .mov (.t 0)⟩,
    ⟨some 6, none, .b2s (.t 5)⟩,
    ⟨some 7, none, .mov (.t 1)⟩,
    ⟨some 8, none, .b2s (.t 7)⟩,
    ⟨some 9, none, .bin .eql (.t 6) (.t 8)⟩,
    ⟨some 4, none, .mov (.t 9)⟩] false [])
   (.ret)))⟩

/-- (*spindle/spindlelaw0.Book).Holds -/
def F123_spindlelaw0_Book_Holds : SFn := ⟨1, false, false, [.tmp 2],
  .seq
   (.region [⟨some 2, none, .mov (.c (.d (.b false)))⟩] false [])
   (.keep [0] (.seq
   (.region [⟨some 3, none, .mov (.t 0)⟩,
    ⟨some 4, none, .call 127 [.t 3]⟩] false [])
   (.keep [0] (.seq
    (.region [⟨some 5, none, .mov (.t 0)⟩,
     ⟨some 6, none, .nilChk (.t 5)⟩,
     ⟨some 7, none, .faddr 2 (.t 6)⟩,
     ⟨some 8, none, .load 1 false (.t 7)⟩,
     ⟨some 9, none, .un .not (.t 8)⟩,
     ⟨some 10, none, .mov (.t 9)⟩,
     ⟨some 11, (some (5, true)), .mov (.t 0)⟩,
     ⟨some 12, (some (5, true)), .call 128 [.t 11]⟩,
     ⟨some 13, none, .pick (.t 10) (.t 12) (.c (.d (.b false)))⟩,
     ⟨some 2, none, .mov (.t 13)⟩] false [])
    (.ret)))))⟩

/-- (*spindle/spindlelaw0.Book).Own -/
def F126_spindlelaw0_Book_Own : SFn := ⟨3, false, false, [],
  .seq
   (.region [⟨some 6, none, .mov (.t 0)⟩,
    ⟨some 7, none, .nilChk (.t 6)⟩,
    ⟨some 8, none, .faddr 0 (.t 7)⟩,
    ⟨some 9, none, .load 1 false (.t 8)⟩,
    ⟨some 10, none, .bin .add (.t 9) (.c (.d (.i .i64 1)))⟩,
    ⟨some 11, none, .nilChk (.t 6)⟩,
    ⟨some 12, none, .faddr 0 (.t 11)⟩,
    ⟨none, none, .store 1 (.t 12) (.t 10)⟩] false [])
   (.keep [0, 1, 2] (.seq
   (.region [⟨some 13, none, .mov (.t 0)⟩,
    ⟨some 14, none, .mov (.t 0)⟩,
    ⟨some 15, none, .nilChk (.t 14)⟩,
    ⟨some 16, none, .faddr 1 (.t 15)⟩,
    ⟨some 17, none, .load 1 false (.t 16)⟩,
    ⟨some 18, none, .mov (.t 1)⟩,
    ⟨some 19, none, .len false (.t 18)⟩,
    ⟨some 20, none, .bin .add (.t 17) (.t 19)⟩,
    ⟨some 21, none, .nilChk (.t 13)⟩,
    ⟨some 22, none, .faddr 1 (.t 21)⟩,
    ⟨none, none, .store 1 (.t 22) (.t 20)⟩] false [])
   (.keep [0, 1, 2] (.seq
    (.region [⟨some 23, none, .mov (.t 0)⟩,
     ⟨some 24, none, .mov (.t 0)⟩,
     ⟨some 25, none, .nilChk (.t 24)⟩,
     ⟨some 26, none, .faddr 3 (.t 25)⟩,
     ⟨some 27, none, .load 1 false (.t 26)⟩,
     ⟨some 28, none, .mov (.t 1)⟩,
     ⟨some 29, none, .litsR 1 [.sl 0 false []] [(0, 1, .t 28)]⟩,
     ⟨some 30, none, .appR 1 24 [.sl 0 false []] (.t 27) (.t 29)⟩,
     ⟨some 31, none, .nilChk (.t 23)⟩,
     ⟨some 32, none, .faddr 3 (.t 31)⟩,
     ⟨none, none, .store 1 (.t 32) (.t 30)⟩] false [])
    (.keep [0, 1, 2] (.seq
    (.region [⟨some 33, none, .mov (.t 0)⟩,
     ⟨some 34, none, .mov (.t 0)⟩,
     ⟨some 35, none, .nilChk (.t 34)⟩,
     ⟨some 36, none, .faddr 4 (.t 35)⟩,
     ⟨some 37, none, .load 1 false (.t 36)⟩,
     ⟨some 38, none, .mov (.t 1)⟩,
     ⟨some 39, none, .call 35 [.t 38]⟩,
     ⟨some 40, none, .lits 1 [.sl 0 false []] [(0, 1, .t 39)]⟩,
     ⟨some 41, none, .appR 1 24 [.sl 0 false []] (.t 37) (.t 40)⟩,
     ⟨some 42, none, .nilChk (.t 33)⟩,
     ⟨some 43, none, .faddr 4 (.t 42)⟩,
     ⟨none, none, .store 1 (.t 43) (.t 41)⟩] true [0, 0, 2, 6, 14, 0, 32, 96, 254, 511, 1023, 2047])
    (.keep [0, 2] (.seq
     (.region [⟨some 44, none, .mov (.t 0)⟩,
      ⟨some 45, none, .mov (.t 0)⟩,
      ⟨some 46, none, .nilChk (.t 45)⟩,
      ⟨some 47, none, .faddr 5 (.t 46)⟩,
      ⟨some 48, none, .load 1 false (.t 47)⟩,
      ⟨some 49, none, .mov (.t 2)⟩,
      ⟨some 50, none, .mov (.t 0)⟩,
      ⟨some 51, none, .nilChk (.t 50)⟩,
      ⟨some 52, none, .faddr 0 (.t 51)⟩,
      ⟨some 53, none, .load 1 false (.t 52)⟩,
      ⟨some 54, none, .bin .mul (.c (.d (.i .i64 31))) (.t 53)⟩,
      ⟨some 55, none, .bin .add (.t 49) (.t 54)⟩,
      ⟨some 56, none, .lits 1 [.i .i64 0] [(0, 1, .t 55)]⟩,
      ⟨some 57, none, .appR 1 8 [.i .i64 0] (.t 48) (.t 56)⟩,
      ⟨some 58, none, .nilChk (.t 44)⟩,
      ⟨some 59, none, .faddr 5 (.t 58)⟩,
      ⟨none, none, .store 1 (.t 59) (.t 57)⟩] true [0, 0, 2, 6, 14, 0, 0, 64, 192, 448, 960, 2016, 4064, 8190, 16383, 32767, 65535])
     (.keep [0] (.seq
     (.region [⟨some 60, none, .mov (.t 0)⟩,
      ⟨some 61, none, .nilChk (.t 60)⟩,
      ⟨some 62, none, .faddr 3 (.t 61)⟩,
      ⟨some 63, none, .load 1 false (.t 62)⟩,
      ⟨some 64, none, .len false (.t 63)⟩,
      ⟨some 65, none, .bin .geq (.t 64) (.c (.d (.i .i64 3)))⟩,
      ⟨some 66, none, .mov (.t 65)⟩,
      ⟨some 67, (some (6, false)), .mov (.t 0)⟩,
      ⟨some 68, (some (6, false)), .nilChk (.t 67)⟩,
      ⟨some 69, (some (6, false)), .faddr 3 (.t 68)⟩,
      ⟨some 70, (some (6, false)), .load 1 false (.t 69)⟩,
      ⟨some 71, (some (6, false)), .len false (.t 70)⟩,
      ⟨some 72, (some (6, false)), .bin .eql (.t 71) (.c (.d (.i .i64 1)))⟩,
      ⟨some 73, (some (6, false)), .mov (.t 72)⟩,
      ⟨some 74, (some (13, true)), .mov (.t 0)⟩,
      ⟨some 75, (some (13, true)), .nilChk (.t 74)⟩,
      ⟨some 76, (some (13, true)), .faddr 0 (.t 75)⟩,
      ⟨some 77, (some (13, true)), .load 1 false (.t 76)⟩,
      ⟨some 78, (some (13, true)), .bin .rem (.t 77) (.c (.d (.i .i64 4)))⟩,
      ⟨some 79, (some (13, true)), .bin .eql (.t 78) (.c (.d (.i .i64 0)))⟩,
      ⟨some 80, (some (6, false)), .pick (.t 73) (.t 79) (.c (.d (.b false)))⟩,
      ⟨some 81, none, .pick (.t 66) (.c (.d (.b true))) (.t 80)⟩] false [])
     (.keep [0, 81] (.cond (.t 81)
      (.keep [0] (.region [⟨some 82, none, .mov (.t 0)⟩,
       ⟨some 83, none, .call 130 [.t 82]⟩] false []))
      (.skip)))))))))))))⟩

def F127_spindlelaw0_Book_untouched_b0 : SCode :=
  .seq
    (.seq
     (.region [⟨some 3, none, .mov (.t 2)⟩,
      ⟨some 4, none, .mov (.t 0)⟩,
      ⟨some 5, none, .nilChk (.t 4)⟩,
      ⟨some 6, none, .faddr 3 (.t 5)⟩,
      ⟨some 7, none, .load 1 false (.t 6)⟩,
      ⟨some 8, none, .len false (.t 7)⟩,
      ⟨some 9, none, .bin .lss (.t 3) (.t 8)⟩] false [])
     (.keep [0, 2, 9] (.cond (.t 9)
     (.skip)
     (.exit 0))))
    (.keep [0, 2] (.seq
     (.block 1 (.region [⟨some 12, none, .mov (.t 0)⟩,
      ⟨some 13, none, .mov (.t 0)⟩,
      ⟨some 14, none, .nilChk (.t 13)⟩,
      ⟨some 15, none, .faddr 2 (.t 14)⟩,
      ⟨some 16, none, .load 1 false (.t 15)⟩,
      ⟨some 17, none, .mov (.t 16)⟩,
      ⟨some 18, (some (5, false)), .mov (.t 0)⟩,
      ⟨some 19, (some (5, false)), .nilChk (.t 18)⟩,
      ⟨some 20, (some (5, false)), .faddr 3 (.t 19)⟩,
      ⟨some 21, (some (5, false)), .load 1 false (.t 20)⟩,
      ⟨some 22, (some (5, false)), .mov (.t 2)⟩,
      ⟨some 23, (some (5, false)), .iaddr 1 (.t 21) (.t 22)⟩,
      ⟨some 24, (some (5, false)), .load 1 false (.t 23)⟩,
      ⟨some 25, (some (5, false)), .b2s (.t 24)⟩,
      ⟨some 26, (some (5, false)), .mov (.t 0)⟩,
      ⟨some 27, (some (5, false)), .nilChk (.t 26)⟩,
      ⟨some 28, (some (5, false)), .faddr 4 (.t 27)⟩,
      ⟨some 29, (some (5, false)), .load 1 false (.t 28)⟩,
      ⟨some 30, (some (5, false)), .mov (.t 2)⟩,
      ⟨some 31, (some (5, false)), .iaddr 1 (.t 29) (.t 30)⟩,
      ⟨some 32, (some (5, false)), .load 1 false (.t 31)⟩,
      ⟨some 33, (some (5, false)), .b2s (.t 32)⟩,
      ⟨some 34, (some (5, false)), .bin .neq (.t 25) (.t 33)⟩,
      ⟨some 35, none, .pick (.t 17) (.c (.d (.b true))) (.t 34)⟩,
      ⟨some 36, none, .nilChk (.t 12)⟩,
      ⟨some 37, none, .faddr 2 (.t 36)⟩,
      ⟨none, none, .store 1 (.t 37) (.t 35)⟩] true [0, 0, 2, 6, 14, 30, 62, 126, 254, 510, 62, 2046, 4094, 8190, 62, 16446, 49214, 114750, 62, 507966, 1032254, 2080830, 4194302, 8388606, 16777215, 33554431, 67108863]))
     (.keep [0, 2] (.region [⟨some 10, none, .mov (.t 2)⟩,
      ⟨some 11, none, .bin .add (.t 10) (.c (.d (.i .i64 1)))⟩,
      ⟨some 2, none, .mov (.t 11)⟩] false []))))
/-- (*spindle/spindlelaw0.Book).untouched -/
def F127_spindlelaw0_Book_untouched : SFn := ⟨1, false, false, [],
  .seq
   (.region [⟨some 2, none, .mov (.c (.d (.i .i64 0)))⟩] false [])
   (.keep [0, 2] (.block 0 (.loop [0, 2] false F127_spindlelaw0_Book_untouched_b0)))⟩

def F128_spindlelaw0_Book_same_b0 : SCode :=
  .seq
     (.seq
      (.region [⟨some 4, none, .mov (.t 3)⟩,
       ⟨some 5, none, .mov (.t 0)⟩,
       ⟨some 6, none, .nilChk (.t 5)⟩,
       ⟨some 7, none, .faddr 6 (.t 6)⟩,
       ⟨some 8, none, .load 1 false (.t 7)⟩,
       ⟨some 9, none, .len false (.t 8)⟩,
       ⟨some 10, none, .bin .lss (.t 4) (.t 9)⟩] false [])
      (.keep [0, 3, 10] (.cond (.t 10)
      (.skip)
      (.exit 0))))
     (.keep [0, 3] (.seq
      (.block 1 (.seq
       (.region [⟨some 13, none, .mov (.t 0)⟩,
        ⟨some 14, none, .nilChk (.t 13)⟩,
        ⟨some 15, none, .faddr 6 (.t 14)⟩,
        ⟨some 16, none, .load 1 false (.t 15)⟩,
        ⟨some 17, none, .mov (.t 3)⟩,
        ⟨some 18, none, .iaddr 1 (.t 16) (.t 17)⟩,
        ⟨some 19, none, .load 1 false (.t 18)⟩,
        ⟨some 20, none, .b2s (.t 19)⟩,
        ⟨some 21, none, .mov (.t 0)⟩,
        ⟨some 22, none, .nilChk (.t 21)⟩,
        ⟨some 23, none, .faddr 7 (.t 22)⟩,
        ⟨some 24, none, .load 1 false (.t 23)⟩,
        ⟨some 25, none, .mov (.t 3)⟩,
        ⟨some 26, none, .iaddr 1 (.t 24) (.t 25)⟩,
        ⟨some 27, none, .load 1 false (.t 26)⟩,
        ⟨some 28, none, .b2s (.t 27)⟩,
        ⟨some 29, none, .bin .neq (.t 20) (.t 28)⟩] true [0, 1, 3, 7, 0, 31, 63, 127, 0, 256, 768, 1792, 0, 7936, 16128, 32512, 65535])
       (.keep [0, 3, 29] (.cond (.t 29)
       (.keep [] (.seq
        (.region [⟨some 2, none, .mov (.c (.d (.b false)))⟩] false [])
        (.ret)))
       (.skip)))))
      (.keep [0, 3] (.region [⟨some 11, none, .mov (.t 3)⟩,
       ⟨some 12, none, .bin .add (.t 11) (.c (.d (.i .i64 1)))⟩,
       ⟨some 3, none, .mov (.t 12)⟩] false []))))
/-- (*spindle/spindlelaw0.Book).same -/
def F128_spindlelaw0_Book_same : SFn := ⟨1, false, false, [.tmp 2],
  .seq
   (.region [⟨some 2, none, .mov (.c (.d (.b false)))⟩] false [])
   (.keep [0] (.seq
   (.seq
    (.region [⟨some 3, none, .mov (.c (.d (.i .i64 0)))⟩] false [])
    (.keep [0, 3] (.block 0 (.loop [0, 3] false F128_spindlelaw0_Book_same_b0))))
   (.keep [] (.seq
    (.region [⟨some 2, none, .mov (.c (.d (.b true)))⟩] false [])
    (.ret)))))⟩

def F130_spindlelaw0_Book_write_b1 : SCode :=
  .seq
         (.seq
         (.region [⟨some 44, none, .mov (.t 4)⟩,
          ⟨some 45, none, .mov (.t 3)⟩,
          ⟨some 46, none, .len false (.t 45)⟩,
          ⟨some 47, none, .bin .lss (.t 44) (.t 46)⟩] false [])
         (.keep [0, 2, 3, 4, 47] (.cond (.t 47)
          (.skip)
          (.exit 2))))
         (.keep [0, 2, 3, 4] (.seq
         (.block 3 (.region [⟨some 50, none, .mov (.t 0)⟩,
           ⟨some 51, none, .nilChk (.t 50)⟩,
           ⟨some 52, none, .faddr 3 (.t 51)⟩,
           ⟨some 53, none, .load 1 false (.t 52)⟩,
           ⟨some 54, none, .mov (.t 2)⟩,
           ⟨some 55, none, .iaddr 1 (.t 53) (.t 54)⟩,
           ⟨some 56, none, .load 1 false (.t 55)⟩,
           ⟨some 57, none, .mov (.t 4)⟩,
           ⟨some 58, none, .mov (.t 3)⟩,
           ⟨some 59, none, .mov (.t 4)⟩,
           ⟨some 60, none, .iaddr 1 (.t 58) (.t 59)⟩,
           ⟨some 61, none, .load 1 false (.t 60)⟩,
           ⟨some 62, none, .iaddr 1 (.t 56) (.t 57)⟩,
           ⟨none, none, .store 1 (.t 62) (.t 61)⟩] true [0, 1, 3, 7, 0, 31, 63, 0, 0, 0, 768, 1792, 4095, 8191]))
         (.keep [0, 2, 3, 4] (.region [⟨some 48, none, .mov (.t 4)⟩,
          ⟨some 49, none, .bin .add (.t 48) (.c (.d (.i .i64 1)))⟩,
          ⟨some 4, none, .mov (.t 49)⟩] false []))))
def F130_spindlelaw0_Book_write_b0 : SCode :=
  .seq
     (.seq
      (.region [⟨some 19, none, .mov (.t 2)⟩,
       ⟨some 20, none, .mov (.t 0)⟩,
       ⟨some 21, none, .nilChk (.t 20)⟩,
       ⟨some 22, none, .faddr 3 (.t 21)⟩,
       ⟨some 23, none, .load 1 false (.t 22)⟩,
       ⟨some 24, none, .len false (.t 23)⟩,
       ⟨some 25, none, .bin .lss (.t 19) (.t 24)⟩] false [])
      (.keep [0, 2, 25] (.cond (.t 25)
      (.skip)
      (.exit 0))))
     (.keep [0, 2] (.seq
      (.block 1 (.seq
       (.region [⟨some 28, none, .mov (.t 0)⟩,
        ⟨some 29, none, .nilChk (.t 28)⟩,
        ⟨some 30, none, .faddr 3 (.t 29)⟩,
        ⟨some 31, none, .load 1 false (.t 30)⟩,
        ⟨some 32, none, .mov (.t 2)⟩,
        ⟨some 33, none, .iaddr 1 (.t 31) (.t 32)⟩,
        ⟨some 34, none, .load 1 false (.t 33)⟩,
        ⟨some 35, none, .len false (.t 34)⟩,
        ⟨some 36, none, .mov (.t 0)⟩,
        ⟨some 37, none, .nilChk (.t 36)⟩,
        ⟨some 38, none, .faddr 5 (.t 37)⟩,
        ⟨some 39, none, .load 1 false (.t 38)⟩,
        ⟨some 40, none, .mov (.t 2)⟩,
        ⟨some 41, none, .iaddr 1 (.t 39) (.t 40)⟩,
        ⟨some 42, none, .load 1 false (.t 41)⟩,
        ⟨some 43, none, .call 131 [.t 35, .t 42]⟩,
        ⟨some 3, none, .mov (.t 43)⟩] true [0, 1, 3, 7, 0, 31, 63, 127, 0, 256, 768, 1792, 0, 7936, 16128, 32767, 65535])
       (.keep [0, 2, 3] (.seq
       (.region [⟨some 4, none, .mov (.c (.d (.i .i64 0)))⟩] false [])
       (.keep [0, 2, 3, 4] (.block 2 (.loop [0, 2, 3, 4] false F130_spindlelaw0_Book_write_b1)))))))
      (.keep [0, 2] (.region [⟨some 26, none, .mov (.t 2)⟩,
       ⟨some 27, none, .bin .add (.t 26) (.c (.d (.i .i64 1)))⟩,
       ⟨some 2, none, .mov (.t 27)⟩] false []))))
def F130_spindlelaw0_Book_write_b3 : SCode :=
  .seq
             (.seq
              (.region [⟨some 124, none, .mov (.t 14)⟩,
               ⟨some 125, none, .mov (.t 12)⟩,
               ⟨some 126, none, .len false (.t 125)⟩,
               ⟨some 127, none, .bin .lss (.t 124) (.t 126)⟩] false [])
              (.keep [0, 5, 6, 7, 9, 10, 11, 12, 13, 14, 127] (.cond (.t 127)
              (.skip)
              (.exit 6))))
             (.keep [0, 5, 6, 7, 9, 10, 11, 12, 13, 14] (.seq
              (.block 7 (.region [⟨some 130, none, .mov (.t 13)⟩,
               ⟨some 131, none, .mov (.t 12)⟩,
               ⟨some 132, none, .mov (.t 14)⟩,
               ⟨some 133, none, .iaddr 1 (.t 131) (.t 132)⟩,
               ⟨some 134, none, .load 1 false (.t 133)⟩,
               ⟨some 135, none, .lits 1 [.i .u8 0] [(0, 1, .t 134)]⟩,
               ⟨some 136, none, .appR 1 1 [.i .u8 0] (.t 130) (.t 135)⟩,
               ⟨some 13, none, .mov (.t 136)⟩] false []))
              (.keep [0, 5, 6, 7, 9, 10, 11, 12, 13, 14] (.region [⟨some 128, none, .mov (.t 14)⟩,
               ⟨some 129, none, .bin .add (.t 128) (.c (.d (.i .i64 1)))⟩,
               ⟨some 14, none, .mov (.t 129)⟩] false []))))
def F130_spindlelaw0_Book_write_b2 : SCode :=
  .seq
      (.seq
       (.region [⟨some 63, none, .mov (.t 6)⟩,
        ⟨some 64, none, .mov (.t 0)⟩,
        ⟨some 65, none, .nilChk (.t 64)⟩,
        ⟨some 66, none, .faddr 3 (.t 65)⟩,
        ⟨some 67, none, .load 1 false (.t 66)⟩,
        ⟨some 68, none, .len false (.t 67)⟩,
        ⟨some 69, none, .bin .lss (.t 63) (.t 68)⟩] false [])
       (.keep [0, 5, 6, 69] (.cond (.t 69)
       (.skip)
       (.exit 4))))
      (.keep [0, 5, 6] (.seq
       (.block 5 (.seq
        (.region [⟨some 72, none, .mov (.t 0)⟩,
         ⟨some 73, none, .nilChk (.t 72)⟩,
         ⟨some 74, none, .faddr 3 (.t 73)⟩,
         ⟨some 75, none, .load 1 false (.t 74)⟩,
         ⟨some 76, none, .mov (.t 6)⟩,
         ⟨some 77, none, .iaddr 1 (.t 75) (.t 76)⟩,
         ⟨some 78, none, .load 1 false (.t 77)⟩,
         ⟨some 7, none, .mov (.t 78)⟩] false [])
        (.keep [0, 5, 6, 7] (.seq
        (.region [⟨some 79, none, .mov (.t 0)⟩,
         ⟨some 80, none, .nilChk (.t 79)⟩,
         ⟨some 81, none, .faddr 5 (.t 80)⟩,
         ⟨some 82, none, .load 1 false (.t 81)⟩,
         ⟨some 83, none, .mov (.t 6)⟩,
         ⟨some 84, none, .iaddr 1 (.t 82) (.t 83)⟩,
         ⟨some 85, none, .load 1 false (.t 84)⟩,
         ⟨some 86, none, .conv .u8 (.t 85)⟩,
         ⟨some 8, none, .mov (.t 86)⟩] false [])
        (.keep [0, 5, 6, 7, 8] (.seq
         (.region [⟨some 87, none, .mov (.t 7)⟩,
          ⟨some 88, none, .mov (.t 8)⟩,
          ⟨some 89, none, .bin .add (.t 88) (.c (.d (.i .u8 101)))⟩,
          ⟨some 90, none, .lits 1 [.i .u8 0] [(0, 1, .t 89)]⟩,
          ⟨some 91, none, .appR 1 1 [.i .u8 0] (.t 87) (.t 90)⟩,
          ⟨some 9, none, .mov (.t 91)⟩] false [])
         (.keep [0, 5, 6, 7, 8, 9] (.seq
         (.region [⟨some 92, none, .mov (.t 7)⟩,
          ⟨some 93, none, .mov (.t 8)⟩,
          ⟨some 94, none, .bin .add (.t 93) (.c (.d (.i .u8 102)))⟩,
          ⟨some 95, none, .mov (.t 8)⟩,
          ⟨some 96, none, .bin .add (.t 95) (.c (.d (.i .u8 103)))⟩,
          ⟨some 97, none, .lits 2 [.i .u8 0] [(0, 1, .t 94), (1, 1, .t 96)]⟩,
          ⟨some 98, none, .appR 1 1 [.i .u8 0] (.t 92) (.t 97)⟩,
          ⟨some 10, none, .mov (.t 98)⟩] false [])
         (.keep [0, 5, 6, 7, 8, 9, 10] (.seq
          (.region [⟨some 99, none, .mov (.t 7)⟩,
           ⟨some 100, none, .mov (.t 8)⟩,
           ⟨some 101, none, .bin .add (.t 100) (.c (.d (.i .u8 104)))⟩,
           ⟨some 102, none, .mov (.t 8)⟩,
           ⟨some 103, none, .bin .add (.t 102) (.c (.d (.i .u8 105)))⟩,
           ⟨some 104, none, .mov (.t 8)⟩,
           ⟨some 105, none, .bin .add (.t 104) (.c (.d (.i .u8 106)))⟩,
           ⟨some 106, none, .lits 3 [.i .u8 0] [(0, 1, .t 101), (1, 1, .t 103), (2, 1, .t 105)]⟩,
           ⟨some 107, none, .appR 1 1 [.i .u8 0] (.t 99) (.t 106)⟩,
           ⟨some 11, none, .mov (.t 107)⟩] false [])
          (.keep [0, 5, 6, 7, 9, 10, 11] (.seq
          (.region [⟨some 108, none, .mov (.t 0)⟩,
           ⟨some 109, none, .nilChk (.t 108)⟩,
           ⟨some 110, none, .faddr 1 (.t 109)⟩,
           ⟨some 111, none, .load 1 false (.t 110)⟩,
           ⟨some 112, none, .mn (.t 111) (.c (.d (.i .i64 3000)))⟩,
           ⟨some 113, none, .bin .add (.t 112) (.c (.d (.i .i64 70)))⟩,
           ⟨some 114, none, .mov (.t 0)⟩,
           ⟨some 115, none, .nilChk (.t 114)⟩,
           ⟨some 116, none, .faddr 5 (.t 115)⟩,
           ⟨some 117, none, .load 1 false (.t 116)⟩,
           ⟨some 118, none, .mov (.t 6)⟩,
           ⟨some 119, none, .iaddr 1 (.t 117) (.t 118)⟩,
           ⟨some 120, none, .load 1 false (.t 119)⟩,
           ⟨some 121, none, .bin .add (.t 120) (.c (.d (.i .i64 107)))⟩,
           ⟨some 122, none, .call 131 [.t 113, .t 121]⟩,
           ⟨some 12, none, .mov (.t 122)⟩] true [0, 1, 3, 7, 15, 31, 0, 64, 192, 448, 0, 1984, 4032, 8128, 16383, 32767])
          (.keep [0, 5, 6, 7, 9, 10, 11, 12] (.seq
           (.region [⟨some 123, none, .mov (.t 7)⟩,
            ⟨some 13, none, .mov (.t 123)⟩] false [])
           (.keep [0, 5, 6, 7, 9, 10, 11, 12, 13] (.seq
           (.seq
            (.region [⟨some 14, none, .mov (.c (.d (.i .i64 0)))⟩] false [])
            (.keep [0, 5, 6, 7, 9, 10, 11, 12, 13, 14] (.block 6 (.loop [0, 5, 6, 7, 9, 10, 11, 12, 13, 14] false F130_spindlelaw0_Book_write_b3))))
           (.keep [0, 5, 6, 7, 9, 10, 11, 12, 13] (.seq
            (.region [⟨some 137, none, .mov (.t 7)⟩,
             ⟨some 138, none, .mov (.t 12)⟩,
             ⟨some 139, none, .appR 1 1 [.i .u8 0] (.t 137) (.t 138)⟩,
             ⟨some 15, none, .mov (.t 139)⟩] false [])
            (.keep [0, 5, 6, 7, 9, 10, 11, 12, 13, 15] (.seq
            (.region [⟨some 140, none, .mov (.t 5)⟩,
             ⟨some 141, none, .mov (.t 9)⟩,
             ⟨some 142, none, .mov (.t 10)⟩,
             ⟨some 143, none, .mov (.t 11)⟩,
             ⟨some 144, none, .mov (.t 15)⟩,
             ⟨some 145, none, .litsR 4 [.sl 0 false []] [(0, 1, .t 141), (1, 1, .t 142), (2, 1, .t 143), (3, 1, .t 144)]⟩,
             ⟨some 146, none, .appR 1 24 [.sl 0 false []] (.t 140) (.t 145)⟩,
             ⟨some 5, none, .mov (.t 146)⟩] false [])
            (.keep [0, 5, 6, 7, 12, 13] (.seq
             (.region [⟨some 147, none, .mov (.t 0)⟩,
              ⟨some 148, none, .mov (.t 7)⟩,
              ⟨some 149, none, .mov (.t 7)⟩,
              ⟨some 150, none, .len false (.t 149)⟩,
              ⟨some 151, none, .mov (.t 0)⟩,
              ⟨some 152, none, .nilChk (.t 151)⟩,
              ⟨some 153, none, .faddr 5 (.t 152)⟩,
              ⟨some 154, none, .load 1 false (.t 153)⟩,
              ⟨some 155, none, .mov (.t 6)⟩,
              ⟨some 156, none, .iaddr 1 (.t 154) (.t 155)⟩,
              ⟨some 157, none, .load 1 false (.t 156)⟩,
              ⟨some 158, none, .call 131 [.t 150, .t 157]⟩,
              ⟨some 159, none, .call 132 [.t 147, .t 148, .t 158]⟩] false [])
             (.keep [0, 5, 6, 7, 12, 13] (.region [⟨some 160, none, .mov (.t 0)⟩,
              ⟨some 161, none, .mov (.t 13)⟩,
              ⟨some 162, none, .mov (.t 7)⟩,
              ⟨some 163, none, .len false (.t 162)⟩,
              ⟨some 164, none, .mov (.t 0)⟩,
              ⟨some 165, none, .nilChk (.t 164)⟩,
              ⟨some 166, none, .faddr 5 (.t 165)⟩,
              ⟨some 167, none, .load 1 false (.t 166)⟩,
              ⟨some 168, none, .mov (.t 6)⟩,
              ⟨some 169, none, .iaddr 1 (.t 167) (.t 168)⟩,
              ⟨some 170, none, .load 1 false (.t 169)⟩,
              ⟨some 171, none, .call 133 [.t 163, .t 170]⟩,
              ⟨some 172, none, .mov (.t 12)⟩,
              ⟨some 173, none, .appR 1 1 [.i .u8 0] (.t 171) (.t 172)⟩,
              ⟨some 174, none, .call 132 [.t 160, .t 161, .t 173]⟩] false []))))))))))))))))))))))))
       (.keep [0, 5, 6] (.region [⟨some 70, none, .mov (.t 6)⟩,
        ⟨some 71, none, .bin .add (.t 70) (.c (.d (.i .i64 1)))⟩,
        ⟨some 6, none, .mov (.t 71)⟩] false []))))
def F130_spindlelaw0_Book_write_b4 : SCode :=
  .seq
       (.seq
       (.region [⟨some 175, none, .mov (.t 16)⟩,
        ⟨some 176, none, .mov (.t 5)⟩,
        ⟨some 177, none, .len false (.t 176)⟩,
        ⟨some 178, none, .bin .lss (.t 175) (.t 177)⟩] false [])
       (.keep [0, 5, 16, 178] (.cond (.t 178)
        (.skip)
        (.exit 8))))
       (.keep [0, 5, 16] (.seq
       (.block 9 (.region [⟨some 181, none, .mov (.t 0)⟩,
         ⟨some 182, none, .mov (.t 5)⟩,
         ⟨some 183, none, .mov (.t 16)⟩,
         ⟨some 184, none, .iaddr 1 (.t 182) (.t 183)⟩,
         ⟨some 185, none, .load 1 false (.t 184)⟩,
         ⟨some 186, none, .mov (.t 5)⟩,
         ⟨some 187, none, .mov (.t 16)⟩,
         ⟨some 188, none, .iaddr 1 (.t 186) (.t 187)⟩,
         ⟨some 189, none, .load 1 false (.t 188)⟩,
         ⟨some 190, none, .call 35 [.t 189]⟩,
         ⟨some 191, none, .call 132 [.t 181, .t 185, .t 190]⟩] true [0, 0, 0, 6, 14, 0, 0, 96, 224, 480, 1023]))
       (.keep [0, 5, 16] (.region [⟨some 179, none, .mov (.t 16)⟩,
        ⟨some 180, none, .bin .add (.t 179) (.c (.d (.i .i64 1)))⟩,
        ⟨some 16, none, .mov (.t 180)⟩] false []))))
/-- (*spindle/spindlelaw0.Book).write -/
def F130_spindlelaw0_Book_write : SFn := ⟨1, false, false, [],
  .seq
   (.region [⟨some 17, none, .mov (.t 0)⟩,
    ⟨some 18, none, .call 127 [.t 17]⟩] false [])
   (.keep [0] (.seq
   (.seq
    (.region [⟨some 2, none, .mov (.c (.d (.i .i64 0)))⟩] false [])
    (.keep [0, 2] (.block 0 (.loop [0, 2] false F130_spindlelaw0_Book_write_b0))))
   (.keep [0] (.seq
    (.region [⟨some 5, none, .mov (.c (.d (.sl 0 false [])))⟩] false [])
    (.keep [0, 5] (.seq
    (.seq
     (.region [⟨some 6, none, .mov (.c (.d (.i .i64 0)))⟩] false [])
     (.keep [0, 5, 6] (.block 4 (.loop [0, 5, 6] false F130_spindlelaw0_Book_write_b2))))
    (.keep [0, 5] (.seq
     (.seq
     (.region [⟨some 16, none, .mov (.c (.d (.i .i64 0)))⟩] false [])
     (.keep [0, 5, 16] (.block 8 (.loop [0, 5, 16] false F130_spindlelaw0_Book_write_b4))))
     (.keep [0] (.seq
     (.region [⟨some 192, none, .mov (.t 0)⟩,
      ⟨some 193, none, .nilChk (.t 192)⟩,
      ⟨some 194, none, .faddr 3 (.t 193)⟩,
      ⟨none, none, .store 1 (.t 194) (.c (.d (.sl 0 false [])))⟩] false [])
     (.keep [0] (.seq
      (.region [⟨some 195, none, .mov (.t 0)⟩,
       ⟨some 196, none, .nilChk (.t 195)⟩,
       ⟨some 197, none, .faddr 4 (.t 196)⟩,
       ⟨none, none, .store 1 (.t 197) (.c (.d (.sl 0 false [])))⟩] false [])
      (.keep [0] (.seq
      (.region [⟨some 198, none, .mov (.t 0)⟩,
       ⟨some 199, none, .nilChk (.t 198)⟩,
       ⟨some 200, none, .faddr 5 (.t 199)⟩,
       ⟨none, none, .store 1 (.t 200) (.c (.d (.sl 0 false [])))⟩] false [])
      (.keep [0] (.region [⟨some 201, none, .mov (.t 0)⟩,
       ⟨some 202, none, .mov (.t 0)⟩,
       ⟨some 203, none, .nilChk (.t 202)⟩,
       ⟨some 204, none, .faddr 2 (.t 203)⟩,
       ⟨some 205, none, .load 1 false (.t 204)⟩,
       ⟨some 206, none, .mov (.t 205)⟩,
       ⟨some 207, (some (5, false)), .mov (.t 0)⟩,
       ⟨some 208, (some (5, false)), .call 128 [.t 207]⟩,
       ⟨some 209, (some (5, false)), .un .not (.t 208)⟩,
       ⟨some 210, none, .pick (.t 206) (.c (.d (.b true))) (.t 209)⟩,
       ⟨some 211, none, .nilChk (.t 201)⟩,
       ⟨some 212, none, .faddr 2 (.t 211)⟩,
       ⟨none, none, .store 1 (.t 212) (.t 210)⟩] false []))))))))))))))))⟩

def F131_spindlelaw0_marked_b0 : SCode :=
  .seq
      (.seq
      (.region [⟨some 9, none, .mov (.t 6)⟩,
       ⟨some 10, none, .mov (.t 0)⟩,
       ⟨some 11, none, .bin .lss (.t 9) (.t 10)⟩] false [])
      (.keep [0, 1, 5, 6, 11] (.cond (.t 11)
       (.skip)
       (.exit 0))))
      (.keep [0, 1, 5, 6] (.seq
      (.block 1 (.region [⟨some 14, none, .mov (.t 5)⟩,
        ⟨some 15, none, .mov (.t 6)⟩,
        ⟨some 16, none, .mov (.t 1)⟩,
        ⟨some 17, none, .mov (.t 6)⟩,
        ⟨some 18, none, .bin .mul (.c (.d (.i .i64 7))) (.t 17)⟩,
        ⟨some 19, none, .bin .add (.t 16) (.t 18)⟩,
        ⟨some 20, none, .bin .add (.t 19) (.c (.d (.i .i64 1)))⟩,
        ⟨some 21, none, .conv .u8 (.t 20)⟩,
        ⟨some 22, none, .iaddr 1 (.t 14) (.t 15)⟩,
        ⟨none, none, .store 1 (.t 22) (.t 21)⟩] false []))
      (.keep [0, 1, 5, 6] (.region [⟨some 12, none, .mov (.t 6)⟩,
       ⟨some 13, none, .bin .add (.t 12) (.c (.d (.i .i64 1)))⟩,
       ⟨some 6, none, .mov (.t 13)⟩] false []))))
/-- spindle/spindlelaw0.marked -/
def F131_spindlelaw0_marked : SFn := ⟨2, true, true, [.tmp 4],
  .seq
   (.region [⟨some 4, none, .mov (.c (.d (.sl 0 false [])))⟩] false [])
   (.keep [0, 1] (.seq
   (.region [⟨some 7, none, .mov (.t 0)⟩,
    ⟨some 8, none, .mkR 1 [.i .u8 0] (.t 7) (.t 7)⟩,
    ⟨some 5, none, .mov (.t 8)⟩] false [])
   (.keep [0, 1, 5] (.seq
    (.seq
    (.region [⟨some 6, none, .mov (.c (.d (.i .i64 0)))⟩] false [])
    (.keep [0, 1, 5, 6] (.block 0 (.loop [0, 1, 5, 6] false F131_spindlelaw0_marked_b0))))
    (.keep [5] (.seq
    (.region [⟨some 23, none, .mov (.t 5)⟩,
     ⟨some 4, none, .mov (.t 23)⟩] false [])
    (.ret)))))))⟩

/-- (*spindle/spindlelaw0.Book).keep -/
def F132_spindlelaw0_Book_keep : SFn := ⟨3, false, false, [],
  .seq
   (.region [⟨some 6, none, .mov (.t 0)⟩,
    ⟨some 7, none, .mov (.t 0)⟩,
    ⟨some 8, none, .nilChk (.t 7)⟩,
    ⟨some 9, none, .faddr 6 (.t 8)⟩,
    ⟨some 10, none, .load 1 false (.t 9)⟩,
    ⟨some 11, none, .mov (.t 1)⟩,
    ⟨some 12, none, .litsR 1 [.sl 0 false []] [(0, 1, .t 11)]⟩,
    ⟨some 13, none, .appR 1 24 [.sl 0 false []] (.t 10) (.t 12)⟩,
    ⟨some 14, none, .nilChk (.t 6)⟩,
    ⟨some 15, none, .faddr 6 (.t 14)⟩,
    ⟨none, none, .store 1 (.t 15) (.t 13)⟩] false [])
   (.keep [0, 2] (.region [⟨some 16, none, .mov (.t 0)⟩,
    ⟨some 17, none, .mov (.t 0)⟩,
    ⟨some 18, none, .nilChk (.t 17)⟩,
    ⟨some 19, none, .faddr 7 (.t 18)⟩,
    ⟨some 20, none, .load 1 false (.t 19)⟩,
    ⟨some 21, none, .mov (.t 2)⟩,
    ⟨some 22, none, .litsR 1 [.sl 0 false []] [(0, 1, .t 21)]⟩,
    ⟨some 23, none, .appR 1 24 [.sl 0 false []] (.t 20) (.t 22)⟩,
    ⟨some 24, none, .nilChk (.t 16)⟩,
    ⟨some 25, none, .faddr 7 (.t 24)⟩,
    ⟨none, none, .store 1 (.t 25) (.t 23)⟩] false []))⟩

def F133_spindlelaw0_marked_own_b0 : SCode :=
  .seq
      (.seq
      (.region [⟨some 9, none, .mov (.t 6)⟩,
       ⟨some 10, none, .mov (.t 0)⟩,
       ⟨some 11, none, .bin .lss (.t 9) (.t 10)⟩] false [])
      (.keep [0, 1, 5, 6, 11] (.cond (.t 11)
       (.skip)
       (.exit 0))))
      (.keep [0, 1, 5, 6] (.seq
      (.block 1 (.region [⟨some 14, none, .mov (.t 5)⟩,
        ⟨some 15, none, .mov (.t 6)⟩,
        ⟨some 16, none, .mov (.t 1)⟩,
        ⟨some 17, none, .mov (.t 6)⟩,
        ⟨some 18, none, .bin .mul (.c (.d (.i .i64 7))) (.t 17)⟩,
        ⟨some 19, none, .bin .add (.t 16) (.t 18)⟩,
        ⟨some 20, none, .bin .add (.t 19) (.c (.d (.i .i64 1)))⟩,
        ⟨some 21, none, .conv .u8 (.t 20)⟩,
        ⟨some 22, none, .iaddr 1 (.t 14) (.t 15)⟩,
        ⟨none, none, .store 1 (.t 22) (.t 21)⟩] false []))
      (.keep [0, 1, 5, 6] (.region [⟨some 12, none, .mov (.t 6)⟩,
       ⟨some 13, none, .bin .add (.t 12) (.c (.d (.i .i64 1)))⟩,
       ⟨some 6, none, .mov (.t 13)⟩] false []))))
/-- spindle/spindlelaw0.marked!own -/
def F133_spindlelaw0_marked_own : SFn := ⟨2, false, false, [.tmp 4],
  .seq
   (.region [⟨some 4, none, .mov (.c (.d (.sl 0 false [])))⟩] false [])
   (.keep [0, 1] (.seq
   (.region [⟨some 7, none, .mov (.t 0)⟩,
    ⟨some 8, none, .mkR 1 [.i .u8 0] (.t 7) (.t 7)⟩,
    ⟨some 5, none, .mov (.t 8)⟩] false [])
   (.keep [0, 1, 5] (.seq
    (.seq
    (.region [⟨some 6, none, .mov (.c (.d (.i .i64 0)))⟩] false [])
    (.keep [0, 1, 5, 6] (.block 0 (.loop [0, 1, 5, 6] false F133_spindlelaw0_marked_own_b0))))
    (.keep [5] (.seq
    (.region [⟨some 23, none, .mov (.t 5)⟩,
     ⟨some 4, none, .mov (.t 23)⟩] false [])
    (.ret)))))))⟩

def F167_spindlelaw0_SameTexts_b0 : SCode :=
  .seq
      (.seq
      (.region [⟨some 11, none, .mov (.t 5)⟩,
       ⟨some 12, none, .mov (.t 0)⟩,
       ⟨some 13, none, .len false (.t 12)⟩,
       ⟨some 14, none, .bin .lss (.t 11) (.t 13)⟩] false [])
      (.keep [0, 1, 5, 14] (.cond (.t 14)
       (.skip)
       (.exit 0))))
      (.keep [0, 1, 5] (.seq
      (.block 1 (.seq
       (.region [⟨some 17, none, .mov (.t 0)⟩,
        ⟨some 18, none, .mov (.t 5)⟩,
        ⟨some 19, none, .iaddr 1 (.t 17) (.t 18)⟩,
        ⟨some 20, none, .load 1 false (.t 19)⟩,
        ⟨some 21, none, .mov (.t 1)⟩,
        ⟨some 22, none, .mov (.t 5)⟩,
        ⟨some 23, none, .iaddr 1 (.t 21) (.t 22)⟩,
        ⟨some 24, none, .load 1 false (.t 23)⟩,
        ⟨some 25, none, .bin .neq (.t 20) (.t 24)⟩] true [0, 0, 3, 7, 0, 0, 48, 112, 255])
       (.keep [0, 1, 5, 25] (.cond (.t 25)
        (.keep [] (.seq
        (.region [⟨some 4, none, .mov (.c (.d (.b false)))⟩] false [])
        (.ret)))
        (.skip)))))
      (.keep [0, 1, 5] (.region [⟨some 15, none, .mov (.t 5)⟩,
       ⟨some 16, none, .bin .add (.t 15) (.c (.d (.i .i64 1)))⟩,
       ⟨some 5, none, .mov (.t 16)⟩] false []))))
/-- spindle/spindlelaw0.SameTexts -/
def F167_spindlelaw0_SameTexts : SFn := ⟨2, true, true, [.tmp 4],
  .seq
   (.region [⟨some 4, none, .mov (.c (.d (.b false)))⟩] false [])
   (.keep [0, 1] (.seq
   (.seq
    (.region [⟨some 6, none, .mov (.t 0)⟩,
     ⟨some 7, none, .len false (.t 6)⟩,
     ⟨some 8, none, .mov (.t 1)⟩,
     ⟨some 9, none, .len false (.t 8)⟩,
     ⟨some 10, none, .bin .neq (.t 7) (.t 9)⟩] false [])
    (.keep [0, 1, 10] (.cond (.t 10)
    (.keep [] (.seq
     (.region [⟨some 4, none, .mov (.c (.d (.b false)))⟩] false [])
     (.ret)))
    (.skip))))
   (.keep [0, 1] (.seq
    (.seq
    (.region [⟨some 5, none, .mov (.c (.d (.i .i64 0)))⟩] false [])
    (.keep [0, 1, 5] (.block 0 (.loop [0, 1, 5] false F167_spindlelaw0_SameTexts_b0))))
    (.keep [] (.seq
    (.region [⟨some 4, none, .mov (.c (.d (.b true)))⟩] false [])
    (.ret)))))))⟩

def F169_spindlelaw0_Lender_Lend_b0 : SCode :=
  .seq
      (.seq
      (.region [⟨some 25, none, .mov (.t 5)⟩,
       ⟨some 26, none, .mov (.t 1)⟩,
       ⟨some 27, none, .len false (.t 26)⟩,
       ⟨some 28, none, .bin .lss (.t 25) (.t 27)⟩] false [])
      (.keep [0, 1, 5, 28] (.cond (.t 28)
       (.skip)
       (.exit 0))))
      (.keep [0, 1, 5] (.seq
      (.block 1 (.region [⟨some 31, none, .mov (.t 0)⟩,
        ⟨some 32, none, .nilChk (.t 31)⟩,
        ⟨some 33, none, .faddr 0 (.t 32)⟩,
        ⟨some 34, none, .load 1 false (.t 33)⟩,
        ⟨some 35, none, .mov (.t 5)⟩,
        ⟨some 36, none, .mov (.t 1)⟩,
        ⟨some 37, none, .mov (.t 5)⟩,
        ⟨some 38, none, .iaddr 1 (.t 36) (.t 37)⟩,
        ⟨some 39, none, .load 1 false (.t 38)⟩,
        ⟨some 40, none, .iaddr 1 (.t 34) (.t 35)⟩,
        ⟨none, none, .store 1 (.t 40) (.t 39)⟩] true [0, 1, 3, 7, 0, 0, 0, 96, 224, 511, 1023]))
      (.keep [0, 1, 5] (.region [⟨some 29, none, .mov (.t 5)⟩,
       ⟨some 30, none, .bin .add (.t 29) (.c (.d (.i .i64 1)))⟩,
       ⟨some 5, none, .mov (.t 30)⟩] false []))))
def F169_spindlelaw0_Lender_Lend_b1 : SCode :=
  .seq
      (.seq
       (.region [⟨some 43, none, .mov (.t 6)⟩,
        ⟨some 44, none, .mov (.t 1)⟩,
        ⟨some 45, none, .len false (.t 44)⟩,
        ⟨some 46, none, .bin .mul (.c (.d (.i .i64 2))) (.t 45)⟩,
        ⟨some 47, none, .bin .add (.t 46) (.c (.d (.i .i64 70)))⟩,
        ⟨some 48, none, .bin .lss (.t 43) (.t 47)⟩] false [])
       (.keep [0, 1, 6, 48] (.cond (.t 48)
       (.skip)
       (.exit 2))))
      (.keep [0, 1, 6] (.seq
       (.block 3 (.region [⟨some 51, none, .mov (.t 0)⟩,
        ⟨some 52, none, .nilChk (.t 51)⟩,
        ⟨some 53, none, .faddr 0 (.t 52)⟩,
        ⟨some 54, none, .load 1 false (.t 53)⟩,
        ⟨some 55, none, .mov (.t 6)⟩,
        ⟨some 56, none, .mov (.t 0)⟩,
        ⟨some 57, none, .mov (.t 6)⟩,
        ⟨some 58, none, .call 174 [.t 56, .t 57]⟩,
        ⟨some 59, none, .iaddr 1 (.t 54) (.t 55)⟩,
        ⟨none, none, .store 1 (.t 59) (.t 58)⟩] true [0, 1, 3, 7, 0, 0, 0, 96, 255, 511]))
       (.keep [0, 1, 6] (.region [⟨some 49, none, .mov (.t 6)⟩,
        ⟨some 50, none, .bin .add (.t 49) (.c (.d (.i .i64 1)))⟩,
        ⟨some 6, none, .mov (.t 50)⟩] false []))))
/-- (*spindle/spindlelaw0.Lender).Lend -/
def F169_spindlelaw0_Lender_Lend : SFn := ⟨2, false, false, [.tmp 4],
  .seq
   (.region [⟨some 4, none, .mov (.c (.d (.sl 0 false [])))⟩] false [])
   (.keep [0, 1] (.seq
   (.seq
    (.region [⟨some 7, none, .mov (.t 0)⟩,
     ⟨some 8, none, .nilChk (.t 7)⟩,
     ⟨some 9, none, .faddr 0 (.t 8)⟩,
     ⟨some 10, none, .load 1 false (.t 9)⟩,
     ⟨some 11, none, .len false (.t 10)⟩,
     ⟨some 12, none, .mov (.t 1)⟩,
     ⟨some 13, none, .len false (.t 12)⟩,
     ⟨some 14, none, .bin .mul (.c (.d (.i .i64 2))) (.t 13)⟩,
     ⟨some 15, none, .bin .add (.t 14) (.c (.d (.i .i64 70)))⟩,
     ⟨some 16, none, .bin .lss (.t 11) (.t 15)⟩] false [])
    (.keep [0, 1, 16] (.cond (.t 16)
    (.keep [0, 1] (.region [⟨some 17, none, .mov (.t 0)⟩,
     ⟨some 18, none, .mov (.t 1)⟩,
     ⟨some 19, none, .len false (.t 18)⟩,
     ⟨some 20, none, .bin .mul (.c (.d (.i .i64 4))) (.t 19)⟩,
     ⟨some 21, none, .bin .add (.t 20) (.c (.d (.i .i64 512)))⟩,
     ⟨some 22, none, .mkR 1 [.i .u8 0] (.t 21) (.t 21)⟩,
     ⟨some 23, none, .nilChk (.t 17)⟩,
     ⟨some 24, none, .faddr 0 (.t 23)⟩,
     ⟨none, none, .store 1 (.t 24) (.t 22)⟩] false []))
    (.skip))))
   (.keep [0, 1] (.seq
    (.seq
    (.region [⟨some 5, none, .mov (.c (.d (.i .i64 0)))⟩] false [])
    (.keep [0, 1, 5] (.block 0 (.loop [0, 1, 5] false F169_spindlelaw0_Lender_Lend_b0))))
    (.keep [0, 1] (.seq
    (.seq
     (.region [⟨some 41, none, .mov (.t 1)⟩,
      ⟨some 42, none, .len false (.t 41)⟩,
      ⟨some 6, none, .mov (.t 42)⟩] false [])
     (.keep [0, 1, 6] (.block 2 (.loop [0, 1, 6] false F169_spindlelaw0_Lender_Lend_b1))))
    (.keep [0, 1] (.seq
     (.region [⟨some 60, none, .mov (.t 0)⟩,
      ⟨some 61, none, .mov (.t 1)⟩,
      ⟨some 62, none, .len false (.t 61)⟩,
      ⟨some 63, none, .nilChk (.t 60)⟩,
      ⟨some 64, none, .faddr 1 (.t 63)⟩,
      ⟨none, none, .store 1 (.t 64) (.t 62)⟩] false [])
     (.keep [0, 1] (.seq
     (.region [⟨some 65, none, .mov (.t 0)⟩,
      ⟨some 66, none, .nilChk (.t 65)⟩,
      ⟨some 67, none, .faddr 0 (.t 66)⟩,
      ⟨some 68, none, .load 1 false (.t 67)⟩,
      ⟨some 69, none, .mov (.t 1)⟩,
      ⟨some 70, none, .len false (.t 69)⟩,
      ⟨some 71, none, .mov (.t 1)⟩,
      ⟨some 72, none, .len false (.t 71)⟩,
      ⟨some 73, none, .bin .mul (.c (.d (.i .i64 2))) (.t 72)⟩,
      ⟨some 74, none, .bin .add (.t 73) (.c (.d (.i .i64 70)))⟩,
      ⟨some 75, none, .slc 1 (.t 68) none (some (.t 70)) (some (.t 74))⟩,
      ⟨some 4, none, .mov (.t 75)⟩] false [])
     (.ret)))))))))))⟩

def F170_spindlelaw0_Lender_Back_b0 : SCode :=
  .seq
      (.seq
      (.region [⟨some 34, none, .mov (.t 6)⟩,
       ⟨some 35, none, .mov (.t 0)⟩,
       ⟨some 36, none, .nilChk (.t 35)⟩,
       ⟨some 37, none, .faddr 1 (.t 36)⟩,
       ⟨some 38, none, .load 1 false (.t 37)⟩,
       ⟨some 39, none, .bin .mul (.c (.d (.i .i64 2))) (.t 38)⟩,
       ⟨some 40, none, .bin .add (.t 39) (.c (.d (.i .i64 70)))⟩,
       ⟨some 41, none, .bin .lss (.t 34) (.t 40)⟩] false [])
      (.keep [0, 5, 6, 41] (.cond (.t 41)
       (.skip)
       (.exit 0))))
      (.keep [0, 5, 6] (.seq
      (.block 1 (.region [⟨some 44, none, .mov (.t 5)⟩,
        ⟨some 45, none, .mov (.t 44)⟩,
        ⟨some 46, (some (1, true)), .mov (.t 0)⟩,
        ⟨some 47, (some (1, true)), .nilChk (.t 46)⟩,
        ⟨some 48, (some (1, true)), .faddr 0 (.t 47)⟩,
        ⟨some 49, (some (1, true)), .load 1 false (.t 48)⟩,
        ⟨some 50, (some (1, true)), .mov (.t 6)⟩,
        ⟨some 51, (some (1, true)), .iaddr 1 (.t 49) (.t 50)⟩,
        ⟨some 52, (some (1, true)), .load 1 false (.t 51)⟩,
        ⟨some 53, (some (1, true)), .mov (.t 0)⟩,
        ⟨some 54, (some (1, true)), .mov (.t 6)⟩,
        ⟨some 55, (some (1, true)), .call 174 [.t 53, .t 54]⟩,
        ⟨some 56, (some (1, true)), .bin .eql (.t 52) (.t 55)⟩,
        ⟨some 57, none, .pick (.t 45) (.t 56) (.c (.d (.b false)))⟩,
        ⟨some 5, none, .mov (.t 57)⟩] true [0, 1, 3, 7, 15, 31, 3, 127, 255, 3, 3, 1539, 4095, 8191, 16383]))
      (.keep [0, 5, 6] (.region [⟨some 42, none, .mov (.t 6)⟩,
       ⟨some 43, none, .bin .add (.t 42) (.c (.d (.i .i64 1)))⟩,
       ⟨some 6, none, .mov (.t 43)⟩] false []))))
def F170_spindlelaw0_Lender_Back_b1 : SCode :=
  .seq
      (.seq
       (.region [⟨some 58, none, .mov (.t 7)⟩,
        ⟨some 59, none, .mov (.t 0)⟩,
        ⟨some 60, none, .nilChk (.t 59)⟩,
        ⟨some 61, none, .faddr 1 (.t 60)⟩,
        ⟨some 62, none, .load 1 false (.t 61)⟩,
        ⟨some 63, none, .bin .lss (.t 58) (.t 62)⟩] false [])
       (.keep [0, 5, 7, 63] (.cond (.t 63)
       (.skip)
       (.exit 2))))
      (.keep [0, 5, 7] (.seq
       (.block 3 (.region [⟨some 66, none, .mov (.t 0)⟩,
        ⟨some 67, none, .nilChk (.t 66)⟩,
        ⟨some 68, none, .faddr 0 (.t 67)⟩,
        ⟨some 69, none, .load 1 false (.t 68)⟩,
        ⟨some 70, none, .mov (.t 7)⟩,
        ⟨some 71, none, .iaddr 1 (.t 69) (.t 70)⟩,
        ⟨none, none, .store 1 (.t 71) (.c (.d (.i .u8 120)))⟩] false []))
       (.keep [0, 5, 7] (.region [⟨some 64, none, .mov (.t 7)⟩,
        ⟨some 65, none, .bin .add (.t 64) (.c (.d (.i .i64 1)))⟩,
        ⟨some 7, none, .mov (.t 65)⟩] false []))))
/-- (*spindle/spindlelaw0.Lender).Back -/
def F170_spindlelaw0_Lender_Back : SFn := ⟨2, false, false, [.tmp 4],
  .seq
   (.region [⟨some 4, none, .mov (.c (.d (.b false)))⟩] false [])
   (.keep [0, 1] (.seq
   (.region [⟨some 8, none, .mov (.t 0)⟩,
    ⟨some 9, none, .nilChk (.t 8)⟩,
    ⟨some 10, none, .faddr 1 (.t 9)⟩,
    ⟨some 11, none, .load 1 false (.t 10)⟩,
    ⟨some 12, none, .mov (.t 1)⟩,
    ⟨some 13, none, .len false (.t 12)⟩,
    ⟨some 14, none, .bin .eql (.t 11) (.t 13)⟩,
    ⟨some 15, none, .mov (.t 14)⟩,
    ⟨some 16, (some (7, true)), .mov (.t 0)⟩,
    ⟨some 17, (some (7, true)), .nilChk (.t 16)⟩,
    ⟨some 18, (some (7, true)), .faddr 0 (.t 17)⟩,
    ⟨some 19, (some (7, true)), .load 1 false (.t 18)⟩,
    ⟨some 20, (some (7, true)), .mov (.t 0)⟩,
    ⟨some 21, (some (7, true)), .nilChk (.t 20)⟩,
    ⟨some 22, (some (7, true)), .faddr 1 (.t 21)⟩,
    ⟨some 23, (some (7, true)), .load 1 false (.t 22)⟩,
    ⟨some 24, (some (7, true)), .slc 1 (.t 19) none (some (.t 23)) none⟩,
    ⟨some 25, (some (7, true)), .b2s (.t 24)⟩,
    ⟨some 26, (some (7, true)), .mov (.t 1)⟩,
    ⟨some 27, (some (7, true)), .b2s (.t 26)⟩,
    ⟨some 28, (some (7, true)), .bin .eql (.t 25) (.t 27)⟩,
    ⟨some 29, none, .pick (.t 15) (.t 28) (.c (.d (.b false)))⟩,
    ⟨some 5, none, .mov (.t 29)⟩] true [0, 1, 3, 7, 0, 16, 63, 127, 255, 511, 1023, 2047, 255, 4351, 12543, 28927, 65535, 131071, 255, 262399, 1048575, 2097151, 4194303])
   (.keep [0, 5] (.seq
    (.seq
    (.region [⟨some 30, none, .mov (.t 0)⟩,
     ⟨some 31, none, .nilChk (.t 30)⟩,
     ⟨some 32, none, .faddr 1 (.t 31)⟩,
     ⟨some 33, none, .load 1 false (.t 32)⟩,
     ⟨some 6, none, .mov (.t 33)⟩] false [])
    (.keep [0, 5, 6] (.block 0 (.loop [0, 5, 6] false F170_spindlelaw0_Lender_Back_b0))))
    (.keep [0, 5] (.seq
    (.seq
     (.region [⟨some 7, none, .mov (.c (.d (.i .i64 0)))⟩] false [])
     (.keep [0, 5, 7] (.block 2 (.loop [0, 5, 7] false F170_spindlelaw0_Lender_Back_b1))))
    (.keep [5] (.seq
     (.region [⟨some 72, none, .mov (.t 5)⟩,
      ⟨some 4, none, .mov (.t 72)⟩] false [])
     (.ret)))))))))⟩

/-- (*spindle/spindlelaw0.Lender).mark -/
def F174_spindlelaw0_Lender_mark : SFn := ⟨2, true, false, [.tmp 4],
  .seq
   (.region [⟨some 4, none, .mov (.c (.d (.i .u8 0)))⟩] false [])
   (.keep [1] (.seq
   (.region [⟨some 5, none, .mov (.t 1)⟩,
    ⟨some 6, none, .bin .mul (.c (.d (.i .i64 5))) (.t 5)⟩,
    ⟨some 7, none, .bin .sub (.c (.d (.i .i64 203))) (.t 6)⟩,
    ⟨some 8, none, .conv .u8 (.t 7)⟩,
    ⟨some 4, none, .mov (.t 8)⟩] false [])
   (.ret)))⟩

def F363_spindlelaw0_Lender_Lend_row_b0 : SCode :=
  .seq
      (.seq
      (.region [⟨some 25, none, .mov (.t 5)⟩,
       ⟨some 26, none, .mov (.t 1)⟩,
       ⟨some 27, none, .len false (.t 26)⟩,
       ⟨some 28, none, .bin .lss (.t 25) (.t 27)⟩] false [])
      (.keep [0, 1, 5, 28] (.cond (.t 28)
       (.skip)
       (.exit 0))))
      (.keep [0, 1, 5] (.seq
      (.block 1 (.region [⟨some 31, none, .mov (.t 0)⟩,
        ⟨some 32, none, .nilChk (.t 31)⟩,
        ⟨some 33, none, .faddr 0 (.t 32)⟩,
        ⟨some 34, none, .load 1 false (.t 33)⟩,
        ⟨some 35, none, .mov (.t 5)⟩,
        ⟨some 36, none, .mov (.t 1)⟩,
        ⟨some 37, none, .mov (.t 5)⟩,
        ⟨some 38, none, .iaddr 1 (.t 36) (.t 37)⟩,
        ⟨some 39, none, .load 1 false (.t 38)⟩,
        ⟨some 40, none, .iaddr 1 (.t 34) (.t 35)⟩,
        ⟨none, none, .store 1 (.t 40) (.t 39)⟩] true [0, 1, 3, 7, 0, 0, 0, 96, 224, 511, 1023]))
      (.keep [0, 1, 5] (.region [⟨some 29, none, .mov (.t 5)⟩,
       ⟨some 30, none, .bin .add (.t 29) (.c (.d (.i .i64 1)))⟩,
       ⟨some 5, none, .mov (.t 30)⟩] false []))))
def F363_spindlelaw0_Lender_Lend_row_b1 : SCode :=
  .seq
      (.seq
       (.region [⟨some 43, none, .mov (.t 6)⟩,
        ⟨some 44, none, .mov (.t 1)⟩,
        ⟨some 45, none, .len false (.t 44)⟩,
        ⟨some 46, none, .bin .mul (.c (.d (.i .i64 2))) (.t 45)⟩,
        ⟨some 47, none, .bin .add (.t 46) (.c (.d (.i .i64 70)))⟩,
        ⟨some 48, none, .bin .lss (.t 43) (.t 47)⟩] false [])
       (.keep [0, 1, 6, 48] (.cond (.t 48)
       (.skip)
       (.exit 2))))
      (.keep [0, 1, 6] (.seq
       (.block 3 (.region [⟨some 51, none, .mov (.t 0)⟩,
        ⟨some 52, none, .nilChk (.t 51)⟩,
        ⟨some 53, none, .faddr 0 (.t 52)⟩,
        ⟨some 54, none, .load 1 false (.t 53)⟩,
        ⟨some 55, none, .mov (.t 6)⟩,
        ⟨some 56, none, .mov (.t 0)⟩,
        ⟨some 57, none, .mov (.t 6)⟩,
        ⟨some 58, none, .call 174 [.t 56, .t 57]⟩,
        ⟨some 59, none, .iaddr 1 (.t 54) (.t 55)⟩,
        ⟨none, none, .store 1 (.t 59) (.t 58)⟩] true [0, 1, 3, 7, 0, 0, 0, 96, 255, 511]))
       (.keep [0, 1, 6] (.region [⟨some 49, none, .mov (.t 6)⟩,
        ⟨some 50, none, .bin .add (.t 49) (.c (.d (.i .i64 1)))⟩,
        ⟨some 6, none, .mov (.t 50)⟩] false []))))
/-- (*spindle/spindlelaw0.Lender).Lend!row -/
def F363_spindlelaw0_Lender_Lend_row : SFn := ⟨2, false, true, [.tmp 4],
  .seq
   (.region [⟨some 4, none, .mov (.c (.d (.sl 0 false [])))⟩] false [])
   (.keep [0, 1] (.seq
   (.seq
    (.region [⟨some 7, none, .mov (.t 0)⟩,
     ⟨some 8, none, .nilChk (.t 7)⟩,
     ⟨some 9, none, .faddr 0 (.t 8)⟩,
     ⟨some 10, none, .load 1 false (.t 9)⟩,
     ⟨some 11, none, .len false (.t 10)⟩,
     ⟨some 12, none, .mov (.t 1)⟩,
     ⟨some 13, none, .len false (.t 12)⟩,
     ⟨some 14, none, .bin .mul (.c (.d (.i .i64 2))) (.t 13)⟩,
     ⟨some 15, none, .bin .add (.t 14) (.c (.d (.i .i64 70)))⟩,
     ⟨some 16, none, .bin .lss (.t 11) (.t 15)⟩] false [])
    (.keep [0, 1, 16] (.cond (.t 16)
    (.keep [0, 1] (.region [⟨some 17, none, .mov (.t 0)⟩,
     ⟨some 18, none, .mov (.t 1)⟩,
     ⟨some 19, none, .len false (.t 18)⟩,
     ⟨some 20, none, .bin .mul (.c (.d (.i .i64 4))) (.t 19)⟩,
     ⟨some 21, none, .bin .add (.t 20) (.c (.d (.i .i64 512)))⟩,
     ⟨some 22, none, .mkR 1 [.i .u8 0] (.t 21) (.t 21)⟩,
     ⟨some 23, none, .nilChk (.t 17)⟩,
     ⟨some 24, none, .faddr 0 (.t 23)⟩,
     ⟨none, none, .store 1 (.t 24) (.t 22)⟩] false []))
    (.skip))))
   (.keep [0, 1] (.seq
    (.seq
    (.region [⟨some 5, none, .mov (.c (.d (.i .i64 0)))⟩] false [])
    (.keep [0, 1, 5] (.block 0 (.loop [0, 1, 5] false F363_spindlelaw0_Lender_Lend_row_b0))))
    (.keep [0, 1] (.seq
    (.seq
     (.region [⟨some 41, none, .mov (.t 1)⟩,
      ⟨some 42, none, .len false (.t 41)⟩,
      ⟨some 6, none, .mov (.t 42)⟩] false [])
     (.keep [0, 1, 6] (.block 2 (.loop [0, 1, 6] false F363_spindlelaw0_Lender_Lend_row_b1))))
    (.keep [0, 1] (.seq
     (.region [⟨some 60, none, .mov (.t 0)⟩,
      ⟨some 61, none, .mov (.t 1)⟩,
      ⟨some 62, none, .len false (.t 61)⟩,
      ⟨some 63, none, .nilChk (.t 60)⟩,
      ⟨some 64, none, .faddr 1 (.t 63)⟩,
      ⟨none, none, .store 1 (.t 64) (.t 62)⟩] false [])
     (.keep [0, 1] (.seq
     (.region [⟨some 65, none, .mov (.t 0)⟩,
      ⟨some 66, none, .nilChk (.t 65)⟩,
      ⟨some 67, none, .faddr 0 (.t 66)⟩,
      ⟨some 68, none, .load 1 false (.t 67)⟩,
      ⟨some 69, none, .mov (.t 1)⟩,
      ⟨some 70, none, .len false (.t 69)⟩,
      ⟨some 71, none, .mov (.t 1)⟩,
      ⟨some 72, none, .len false (.t 71)⟩,
      ⟨some 73, none, .bin .mul (.c (.d (.i .i64 2))) (.t 72)⟩,
      ⟨some 74, none, .bin .add (.t 73) (.c (.d (.i .i64 70)))⟩,
      ⟨some 75, none, .slc 1 (.t 68) none (some (.t 70)) (some (.t 74))⟩,
      ⟨some 4, none, .mov (.t 75)⟩] false [])
     (.ret)))))))))))⟩
end Go.Sh
