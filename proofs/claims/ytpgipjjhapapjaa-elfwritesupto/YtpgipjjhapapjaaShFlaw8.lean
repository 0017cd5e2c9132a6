/- Shadow functions of law8, written by tr.py. -/
import Derived.Test.YtpgipjjhapapjaaShBa
namespace Go.Sh
def F138_spindlelaw8_few_b0 : SCode :=
  .seq
      (.seq
      (.region [⟨some 5, none, .mov (.t 4)⟩,
       ⟨some 6, none, .mov (.t 0)⟩,
       ⟨some 7, none, .len false (.t 6)⟩,
       ⟨some 8, none, .bin .lss (.t 5) (.t 7)⟩] false [])
      (.keep [0, 3, 4, 8] (.cond (.t 8)
       (.skip)
       (.exit 0))))
      (.keep [0, 3, 4] (.seq
      (.block 1 (.seq
       (.region [⟨some 11, none, .mov (.t 3)⟩,
        ⟨some 12, none, .mov (.t 0)⟩,
        ⟨some 13, none, .mov (.t 4)⟩,
        ⟨some 14, none, .iaddr 1 (.t 12) (.t 13)⟩,
        ⟨some 15, none, .load 1 false (.t 14)⟩,
        ⟨some 16, none, .len true (.t 15)⟩,
        ⟨some 17, none, .bin .add (.t 11) (.t 16)⟩,
        ⟨some 18, none, .bin .add (.t 17) (.c (.d (.i .i64 2)))⟩,
        ⟨some 3, none, .mov (.t 18)⟩] false [])
       (.keep [0, 3, 4] (.seq
        (.region [⟨some 19, none, .mov (.t 3)⟩,
         ⟨some 20, none, .bin .mul (.c (.d (.i .i64 4))) (.t 19)⟩,
         ⟨some 21, none, .bin .gtr (.t 20) (.c (.d (.i .i64 2147483647)))⟩] false [])
        (.keep [0, 3, 4, 21] (.cond (.t 21)
        (.keep [] (.seq
         (.region [⟨some 2, none, .mov (.c (.d (.b false)))⟩] false [])
         (.ret)))
        (.skip)))))))
      (.keep [0, 3, 4] (.region [⟨some 9, none, .mov (.t 4)⟩,
       ⟨some 10, none, .bin .add (.t 9) (.c (.d (.i .i64 1)))⟩,
       ⟨some 4, none, .mov (.t 10)⟩] false []))))
/-- spindle/spindlelaw8.few -/
def F138_spindlelaw8_few : SFn := ⟨1, true, true, [.tmp 2],
  .seq
   (.region [⟨some 2, none, .mov (.c (.d (.b false)))⟩] false [])
   (.keep [0] (.seq
   (.region [⟨some 3, none, .mov (.c (.d (.i .i64 0)))⟩] false [])
   (.keep [0, 3] (.seq
    (.seq
    (.region [⟨some 4, none, .mov (.c (.d (.i .i64 0)))⟩] false [])
    (.keep [0, 3, 4] (.block 0 (.loop [0, 3, 4] false F138_spindlelaw8_few_b0))))
    (.keep [] (.seq
    (.region [⟨some 2, none, .mov (.c (.d (.b true)))⟩] false [])
    (.ret)))))))⟩

def F141_spindlelaw8_StrsBack_b0 : SCode :=
  .seq
        (.seq
        (.region [⟨some 30, none, .mov (.t 6)⟩,
         ⟨some 31, none, .mov (.t 0)⟩,
         ⟨some 32, none, .len false (.t 31)⟩,
         ⟨some 33, none, .bin .lss (.t 30) (.t 32)⟩] false [])
        (.keep [0, 3, 4, 5, 6, 33] (.cond (.t 33)
         (.skip)
         (.exit 0))))
        (.keep [0, 3, 4, 5, 6] (.seq
        (.block 1 (.seq
         (.region [⟨some 37, none, .mov (.t 3)⟩,
          ⟨some 38, none, .mov (.t 0)⟩,
          ⟨some 39, none, .mov (.t 6)⟩,
          ⟨some 40, none, .iaddr 1 (.t 38) (.t 39)⟩,
          ⟨some 41, none, .load 1 false (.t 40)⟩,
          ⟨some 42, none, .call 140 [.t 37, .t 41]⟩,
          ⟨some 36, none, .mov (.t 42)⟩,
          ⟨some 43, none, .extract 0 (.t 36)⟩,
          ⟨some 44, none, .extract 1 (.t 36)⟩,
          ⟨some 7, none, .mov (.t 43)⟩,
          ⟨some 8, none, .mov (.t 44)⟩] false [])
         (.keep [0, 3, 4, 5, 6, 7, 8] (.seq
          (.seq
          (.region [⟨some 45, none, .mov (.t 8)⟩,
           ⟨some 46, none, .bin .neq (.t 45) (.c (.d (.i .i64 0)))⟩] false [])
          (.keep [0, 3, 4, 5, 6, 7, 8, 46] (.cond (.t 46)
           (.keep [0, 3, 4, 5, 6, 7, 8] (.seq
           (.seq
            (.region [⟨some 47, none, .mov (.t 7)⟩,
             ⟨some 48, none, .bin .neq (.t 47) (.c (.d (.i .i64 0)))⟩,
             ⟨some 49, none, .mov (.t 48)⟩,
             ⟨some 50, (some (2, false)), .mov (.t 8)⟩,
             ⟨some 51, (some (2, false)), .bin .neq (.t 50) (.c (.d (.i .i64 81)))⟩,
             ⟨some 52, none, .pick (.t 49) (.c (.d (.b true))) (.t 51)⟩] false [])
            (.keep [0, 3, 4, 5, 6, 52] (.cond (.t 52)
            (.keep [] (.seq
             (.region [⟨some 2, none, .mov (.c (.d (.b false)))⟩] false [])
             (.ret)))
            (.skip))))
           (.exit 1)))
           (.skip))))
          (.keep [0, 3, 4, 5, 6, 7] (.seq
          (.region [⟨some 53, none, .mov (.t 4)⟩,
           ⟨some 54, none, .mov (.t 7)⟩,
           ⟨some 55, none, .lits 1 [.i .i64 0] [(0, 1, .t 54)]⟩,
           ⟨some 56, none, .app 1 8 (.t 53) (.t 55)⟩,
           ⟨some 4, none, .mov (.t 56)⟩] false [])
          (.keep [0, 3, 4, 5, 6] (.region [⟨some 57, none, .mov (.t 5)⟩,
           ⟨some 58, none, .mov (.t 0)⟩,
           ⟨some 59, none, .mov (.t 6)⟩,
           ⟨some 60, none, .iaddr 1 (.t 58) (.t 59)⟩,
           ⟨some 61, none, .load 1 false (.t 60)⟩,
           ⟨some 62, none, .lits 1 [.s []] [(0, 1, .t 61)]⟩,
           ⟨some 63, none, .app 1 16 (.t 57) (.t 62)⟩,
           ⟨some 5, none, .mov (.t 63)⟩] false []))))))))
        (.keep [0, 3, 4, 5, 6] (.region [⟨some 34, none, .mov (.t 6)⟩,
         ⟨some 35, none, .bin .add (.t 34) (.c (.d (.i .i64 1)))⟩,
         ⟨some 6, none, .mov (.t 35)⟩] false []))))
def F141_spindlelaw8_StrsBack_b1 : SCode :=
  .seq
          (.seq
          (.region [⟨some 89, none, .mov (.t 14)⟩,
           ⟨some 90, none, .mov (.t 5)⟩,
           ⟨some 91, none, .len false (.t 90)⟩,
           ⟨some 92, none, .bin .lss (.t 89) (.t 91)⟩] false [])
          (.keep [3, 4, 5, 9, 11, 14, 92] (.cond (.t 92)
           (.skip)
           (.exit 2))))
          (.keep [3, 4, 5, 9, 11, 14] (.seq
          (.block 3 (.seq
           (.region [⟨some 95, none, .mov (.t 4)⟩,
            ⟨some 96, none, .mov (.t 14)⟩,
            ⟨some 97, none, .iaddr 1 (.t 95) (.t 96)⟩,
            ⟨some 98, none, .load 1 false (.t 97)⟩,
            ⟨some 15, none, .mov (.t 98)⟩] false [])
           (.keep [3, 4, 5, 9, 11, 14, 15] (.seq
            (.region [⟨some 99, none, .mov (.t 15)⟩,
             ⟨some 100, none, .mov (.t 5)⟩,
             ⟨some 101, none, .mov (.t 14)⟩,
             ⟨some 102, none, .iaddr 1 (.t 100) (.t 101)⟩,
             ⟨some 103, none, .load 1 false (.t 102)⟩,
             ⟨some 104, none, .len true (.t 103)⟩,
             ⟨some 105, none, .bin .add (.t 99) (.t 104)⟩,
             ⟨some 16, none, .mov (.t 105)⟩] false [])
            (.keep [3, 4, 5, 9, 11, 14, 15, 16] (.seq
            (.seq
             (.region [⟨some 106, none, .mov (.t 15)⟩,
              ⟨some 107, none, .bin .lss (.t 106) (.c (.d (.i .i64 1)))⟩,
              ⟨some 108, none, .mov (.t 107)⟩,
              ⟨some 109, (some (2, false)), .mov (.t 16)⟩,
              ⟨some 110, (some (2, false)), .mov (.t 9)⟩,
              ⟨some 111, (some (2, false)), .len false (.t 110)⟩,
              ⟨some 112, (some (2, false)), .bin .geq (.t 109) (.t 111)⟩,
              ⟨some 113, none, .pick (.t 108) (.c (.d (.b true))) (.t 112)⟩,
              ⟨some 114, none, .mov (.t 113)⟩,
              ⟨some 115, (some (8, false)), .mov (.t 9)⟩,
              ⟨some 116, (some (8, false)), .mov (.t 15)⟩,
              ⟨some 117, (some (8, false)), .mov (.t 16)⟩,
              ⟨some 118, (some (8, false)), .slc 1 (.t 115) (some (.t 116)) (some (.t 117)) none⟩,
              ⟨some 119, (some (8, false)), .b2s (.t 118)⟩,
              ⟨some 120, (some (8, false)), .mov (.t 5)⟩,
              ⟨some 121, (some (8, false)), .mov (.t 14)⟩,
              ⟨some 122, (some (8, false)), .iaddr 1 (.t 120) (.t 121)⟩,
              ⟨some 123, (some (8, false)), .load 1 false (.t 122)⟩,
              ⟨some 124, (some (8, false)), .bin .neq (.t 119) (.t 123)⟩,
              ⟨some 125, none, .pick (.t 114) (.c (.d (.b true))) (.t 124)⟩,
              ⟨some 126, none, .mov (.t 125)⟩,
              ⟨some 127, (some (20, false)), .mov (.t 9)⟩,
              ⟨some 128, (some (20, false)), .mov (.t 16)⟩,
              ⟨some 129, (some (20, false)), .iaddr 1 (.t 127) (.t 128)⟩,
              ⟨some 130, (some (20, false)), .load 1 false (.t 129)⟩,
              ⟨some 131, (some (20, false)), .bin .neq (.t 130) (.c (.d (.i .u8 0)))⟩,
              ⟨some 132, none, .pick (.t 126) (.c (.d (.b true))) (.t 131)⟩,
              ⟨some 133, none, .mov (.t 132)⟩,
              ⟨some 134, (some (27, false)), .mov (.t 9)⟩,
              ⟨some 135, (some (27, false)), .mov (.t 15)⟩,
              ⟨some 136, (some (27, false)), .bin .sub (.t 135) (.c (.d (.i .i64 1)))⟩,
              ⟨some 137, (some (27, false)), .iaddr 1 (.t 134) (.t 136)⟩,
              ⟨some 138, (some (27, false)), .load 1 false (.t 137)⟩,
              ⟨some 139, (some (27, false)), .bin .neq (.t 138) (.c (.d (.i .u8 0)))⟩,
              ⟨some 140, none, .pick (.t 133) (.c (.d (.b true))) (.t 139)⟩] true [0, 1, 3, 7, 7, 23, 63, 127, 255, 511, 511, 511, 4095, 8191, 511, 511, 49663, 115199, 262143, 524287, 1048575, 2097151, 2097151, 8388607, 16777215, 33554431, 67108863, 134217727, 268435455, 268435455, 805306367, 2147483647, 4294967295, 8589934591, 17179869183])
             (.keep [3, 4, 5, 9, 11, 14, 15, 140] (.cond (.t 140)
             (.keep [] (.seq
              (.region [⟨some 2, none, .mov (.c (.d (.b false)))⟩] false [])
              (.ret)))
             (.skip))))
            (.keep [3, 4, 5, 9, 11, 14, 15] (.seq
             (.region [⟨some 142, none, .mov (.t 3)⟩,
              ⟨some 143, none, .mov (.t 15)⟩,
              ⟨some 144, none, .call 144 [.t 142, .t 143]⟩,
              ⟨some 141, none, .mov (.t 144)⟩,
              ⟨some 145, none, .extract 0 (.t 141)⟩,
              ⟨some 146, none, .extract 1 (.t 141)⟩,
              ⟨some 17, none, .mov (.t 145)⟩,
              ⟨some 18, none, .mov (.t 146)⟩] false [])
             (.keep [3, 4, 5, 9, 11, 14, 15, 17, 18] (.seq
             (.region [⟨some 148, none, .mov (.t 11)⟩,
              ⟨some 149, none, .mov (.t 15)⟩,
              ⟨some 150, none, .call 144 [.t 148, .t 149]⟩,
              ⟨some 147, none, .mov (.t 150)⟩,
              ⟨some 151, none, .extract 0 (.t 147)⟩,
              ⟨some 152, none, .extract 1 (.t 147)⟩,
              ⟨some 19, none, .mov (.t 151)⟩,
              ⟨some 20, none, .mov (.t 152)⟩] false [])
             (.keep [3, 4, 5, 9, 11, 14, 15, 17, 18, 19, 20] (.seq
              (.region [⟨some 154, none, .mov (.t 11)⟩,
               ⟨some 155, none, .mov (.t 5)⟩,
               ⟨some 156, none, .mov (.t 14)⟩,
               ⟨some 157, none, .iaddr 1 (.t 155) (.t 156)⟩,
               ⟨some 158, none, .load 1 false (.t 157)⟩,
               ⟨some 159, none, .call 140 [.t 154, .t 158]⟩,
               ⟨some 153, none, .mov (.t 159)⟩,
               ⟨some 160, none, .extract 0 (.t 153)⟩,
               ⟨some 161, none, .extract 1 (.t 153)⟩,
               ⟨some 21, none, .mov (.t 160)⟩,
               ⟨some 22, none, .mov (.t 161)⟩] false [])
              (.keep [3, 4, 5, 9, 11, 14, 15, 17, 18, 19, 20, 21, 22] (.seq
              (.region [⟨some 162, none, .mov (.t 17)⟩,
               ⟨some 163, none, .mov (.t 5)⟩,
               ⟨some 164, none, .mov (.t 14)⟩,
               ⟨some 165, none, .iaddr 1 (.t 163) (.t 164)⟩,
               ⟨some 166, none, .load 1 false (.t 165)⟩,
               ⟨some 167, none, .bin .neq (.t 162) (.t 166)⟩,
               ⟨some 168, none, .mov (.t 167)⟩,
               ⟨some 169, (some (6, false)), .mov (.t 19)⟩,
               ⟨some 170, (some (6, false)), .mov (.t 5)⟩,
               ⟨some 171, (some (6, false)), .mov (.t 14)⟩,
               ⟨some 172, (some (6, false)), .iaddr 1 (.t 170) (.t 171)⟩,
               ⟨some 173, (some (6, false)), .load 1 false (.t 172)⟩,
               ⟨some 174, (some (6, false)), .bin .neq (.t 169) (.t 173)⟩,
               ⟨some 175, none, .pick (.t 168) (.c (.d (.b true))) (.t 174)⟩,
               ⟨some 176, none, .mov (.t 175)⟩,
               ⟨some 177, (some (14, false)), .mov (.t 18)⟩,
               ⟨some 178, (some (14, false)), .bin .neq (.t 177) (.c (.d (.i .i64 0)))⟩,
               ⟨some 179, none, .pick (.t 176) (.c (.d (.b true))) (.t 178)⟩,
               ⟨some 180, none, .mov (.t 179)⟩,
               ⟨some 181, (some (18, false)), .mov (.t 20)⟩,
               ⟨some 182, (some (18, false)), .bin .neq (.t 181) (.c (.d (.i .i64 0)))⟩,
               ⟨some 183, none, .pick (.t 180) (.c (.d (.b true))) (.t 182)⟩,
               ⟨some 184, none, .mov (.t 183)⟩,
               ⟨some 185, (some (22, false)), .mov (.t 21)⟩,
               ⟨some 186, (some (22, false)), .mov (.t 15)⟩,
               ⟨some 187, (some (22, false)), .bin .neq (.t 185) (.t 186)⟩,
               ⟨some 188, none, .pick (.t 184) (.c (.d (.b true))) (.t 187)⟩,
               ⟨some 189, none, .mov (.t 188)⟩,
               ⟨some 190, (some (27, false)), .mov (.t 22)⟩,
               ⟨some 191, (some (27, false)), .bin .neq (.t 190) (.c (.d (.i .i64 0)))⟩,
               ⟨some 192, none, .pick (.t 189) (.c (.d (.b true))) (.t 191)⟩] false [])
              (.keep [3, 4, 5, 9, 11, 14, 192] (.cond (.t 192)
               (.keep [] (.seq
               (.region [⟨some 2, none, .mov (.c (.d (.b false)))⟩] false [])
               (.ret)))
               (.skip)))))))))))))))))
          (.keep [3, 4, 5, 9, 11, 14] (.region [⟨some 93, none, .mov (.t 14)⟩,
           ⟨some 94, none, .bin .add (.t 93) (.c (.d (.i .i64 1)))⟩,
           ⟨some 14, none, .mov (.t 94)⟩] false []))))
/-- spindle/spindlelaw8.StrsBack -/
def F141_spindlelaw8_StrsBack : SFn := ⟨1, false, false, [.tmp 2],
  .seq
   (.region [⟨some 2, none, .mov (.c (.d (.b false)))⟩] false [])
   (.keep [0] (.seq
   (.seq
    (.region [⟨some 24, none, .mov (.t 0)⟩,
     ⟨some 25, none, .call 138 [.t 24]⟩,
     ⟨some 26, none, .un .not (.t 25)⟩] false [])
    (.keep [0, 26] (.cond (.t 26)
    (.keep [] (.seq
     (.region [⟨some 2, none, .mov (.c (.d (.b true)))⟩] false [])
     (.ret)))
    (.skip))))
   (.keep [0] (.seq
    (.region [⟨some 27, none, .call 139 []⟩,
     ⟨some 3, none, .mov (.t 27)⟩] false [])
    (.keep [0, 3] (.seq
    (.seq
     (.region [⟨some 28, none, .mov (.t 3)⟩,
      ⟨some 29, none, .eqv false [12] (.t 28) (.c (.d (.np)))⟩] false [])
     (.keep [0, 3, 29] (.cond (.t 29)
     (.keep [] (.seq
      (.region [⟨some 2, none, .mov (.c (.d (.b false)))⟩] false [])
      (.ret)))
     (.skip))))
    (.keep [0, 3] (.seq
     (.region [⟨some 4, none, .mov (.c (.d (.sl 0 false [])))⟩] false [])
     (.keep [0, 3, 4] (.seq
     (.region [⟨some 5, none, .mov (.c (.d (.sl 0 false [])))⟩] false [])
     (.keep [0, 3, 4, 5] (.seq
      (.seq
      (.region [⟨some 6, none, .mov (.c (.d (.i .i64 0)))⟩] false [])
      (.keep [0, 3, 4, 5, 6] (.block 0 (.loop [0, 3, 4, 5, 6] false F141_spindlelaw8_StrsBack_b0))))
      (.keep [3, 4, 5] (.seq
      (.region [⟨some 65, none, .mov (.t 3)⟩,
       ⟨some 66, none, .call 142 [.t 65]⟩,
       ⟨some 64, none, .mov (.t 66)⟩,
       ⟨some 67, none, .extract 0 (.t 64)⟩,
       ⟨some 68, none, .extract 1 (.t 64)⟩,
       ⟨some 9, none, .mov (.t 67)⟩,
       ⟨some 10, none, .mov (.t 68)⟩] false [])
      (.keep [3, 4, 5, 9, 10] (.seq
       (.region [⟨some 70, none, .mov (.t 9)⟩,
        ⟨some 71, none, .call 143 [.t 70]⟩,
        ⟨some 69, none, .mov (.t 71)⟩,
        ⟨some 72, none, .extract 0 (.t 69)⟩,
        ⟨some 73, none, .extract 1 (.t 69)⟩,
        ⟨some 74, none, .extract 2 (.t 69)⟩,
        ⟨some 11, none, .mov (.t 72)⟩,
        ⟨some 12, none, .mov (.t 73)⟩,
        ⟨some 13, none, .mov (.t 74)⟩] false [])
       (.keep [3, 4, 5, 9, 10, 11, 12, 13] (.seq
       (.seq
        (.region [⟨some 75, none, .mov (.t 10)⟩,
         ⟨some 76, none, .bin .neq (.t 75) (.c (.d (.i .i64 0)))⟩,
         ⟨some 77, none, .mov (.t 76)⟩,
         ⟨some 78, (some (2, false)), .mov (.t 13)⟩,
         ⟨some 79, (some (2, false)), .bin .neq (.t 78) (.c (.d (.i .i64 0)))⟩,
         ⟨some 80, none, .pick (.t 77) (.c (.d (.b true))) (.t 79)⟩,
         ⟨some 81, none, .mov (.t 80)⟩,
         ⟨some 82, (some (6, false)), .mov (.t 12)⟩,
         ⟨some 83, (some (6, false)), .bin .neq (.t 82) (.c (.d (.i .i64 0)))⟩,
         ⟨some 84, none, .pick (.t 81) (.c (.d (.b true))) (.t 83)⟩,
         ⟨some 85, none, .mov (.t 84)⟩,
         ⟨some 86, (some (10, false)), .mov (.t 11)⟩,
         ⟨some 87, (some (10, false)), .eqv false [12] (.t 86) (.c (.d (.np)))⟩,
         ⟨some 88, none, .pick (.t 85) (.c (.d (.b true))) (.t 87)⟩] false [])
        (.keep [3, 4, 5, 9, 11, 88] (.cond (.t 88)
        (.keep [] (.seq
         (.region [⟨some 2, none, .mov (.c (.d (.b false)))⟩] false [])
         (.ret)))
        (.skip))))
       (.keep [3, 4, 5, 9, 11] (.seq
        (.seq
        (.region [⟨some 14, none, .mov (.c (.d (.i .i64 0)))⟩] false [])
        (.keep [3, 4, 5, 9, 11, 14] (.block 2 (.loop [3, 4, 5, 9, 11, 14] false F141_spindlelaw8_StrsBack_b1))))
        (.keep [9, 11] (.seq
        (.region [⟨some 194, none, .mov (.t 11)⟩,
         ⟨some 195, none, .call 142 [.t 194]⟩,
         ⟨some 193, none, .mov (.t 195)⟩,
         ⟨some 196, none, .extract 0 (.t 193)⟩,
         ⟨some 197, none, .extract 1 (.t 193)⟩,
         ⟨some 23, none, .mov (.t 196)⟩,
         ⟨some 10, none, .mov (.t 197)⟩] false [])
        (.keep [9, 10, 23] (.seq
         (.region [⟨some 198, none, .mov (.t 10)⟩,
          ⟨some 199, none, .bin .eql (.t 198) (.c (.d (.i .i64 0)))⟩,
          ⟨some 200, none, .mov (.t 199)⟩,
          ⟨some 201, (some (2, true)), .mov (.t 9)⟩,
          ⟨some 202, (some (2, true)), .mov (.t 23)⟩,
          ⟨some 203, (some (2, true)), .call 73 [.t 201, .t 202]⟩,
          ⟨some 204, none, .pick (.t 200) (.t 203) (.c (.d (.b false)))⟩,
          ⟨some 205, none, .mov (.t 204)⟩,
          ⟨some 206, (some (7, true)), .call 145 []⟩,
          ⟨some 207, none, .pick (.t 205) (.t 206) (.c (.d (.b false)))⟩,
          ⟨some 2, none, .mov (.t 207)⟩] false [])
         (.ret)))))))))))))))))))))))))⟩

/-- spindle/spindlelaw8.awake -/
def F145_spindlelaw8_awake : SFn := ⟨0, true, true, [.tmp 0],
  .seq
   (.region [⟨some 0, none, .mov (.c (.d (.b false)))⟩] false [])
   (.keep [] (.seq
   (.region [⟨some 6, none, .call 139 []⟩,
    ⟨some 1, none, .mov (.t 6)⟩] false [])
   (.keep [1] (.seq
    (.seq
    (.region [⟨some 7, none, .mov (.t 1)⟩,
     ⟨some 8, none, .eqv false [12] (.t 7) (.c (.d (.np)))⟩] false [])
    (.keep [1, 8] (.cond (.t 8)
     (.keep [] (.seq
     (.region [⟨some 0, none, .mov (.c (.d (.b false)))⟩] false [])
     (.ret)))
     (.skip))))
    (.keep [1] (.seq
    (.region [⟨some 10, none, .mov (.t 1)⟩,
     ⟨some 11, none, .call 140 [.t 10, .c (.d (.s [97, 98]))]⟩,
     ⟨some 9, none, .mov (.t 11)⟩,
     ⟨some 12, none, .extract 0 (.t 9)⟩,
     ⟨some 13, none, .extract 1 (.t 9)⟩,
     ⟨some 2, none, .mov (.t 12)⟩,
     ⟨some 3, none, .mov (.t 13)⟩] false [])
    (.keep [1, 2, 3] (.seq
     (.region [⟨some 15, none, .mov (.t 1)⟩,
      ⟨some 16, none, .call 144 [.t 15, .c (.d (.i .i64 1))]⟩,
      ⟨some 14, none, .mov (.t 16)⟩,
      ⟨some 17, none, .extract 0 (.t 14)⟩,
      ⟨some 18, none, .extract 1 (.t 14)⟩,
      ⟨some 4, none, .mov (.t 17)⟩,
      ⟨some 5, none, .mov (.t 18)⟩] false [])
     (.keep [2, 3, 4, 5] (.seq
     (.region [⟨some 19, none, .mov (.t 2)⟩,
      ⟨some 20, none, .bin .eql (.t 19) (.c (.d (.i .i64 1)))⟩,
      ⟨some 21, none, .mov (.t 20)⟩,
      ⟨some 22, (some (2, true)), .mov (.t 3)⟩,
      ⟨some 23, (some (2, true)), .bin .eql (.t 22) (.c (.d (.i .i64 0)))⟩,
      ⟨some 24, none, .pick (.t 21) (.t 23) (.c (.d (.b false)))⟩,
      ⟨some 25, none, .mov (.t 24)⟩,
      ⟨some 26, (some (6, true)), .mov (.t 4)⟩,
      ⟨some 27, (some (6, true)), .bin .eql (.t 26) (.c (.d (.s [97, 98])))⟩,
      ⟨some 28, none, .pick (.t 25) (.t 27) (.c (.d (.b false)))⟩,
      ⟨some 29, none, .mov (.t 28)⟩,
      ⟨some 30, (some (10, true)), .mov (.t 5)⟩,
      ⟨some 31, (some (10, true)), .bin .eql (.t 30) (.c (.d (.i .i64 0)))⟩,
      ⟨some 32, none, .pick (.t 29) (.t 31) (.c (.d (.b false)))⟩,
      ⟨some 0, none, .mov (.t 32)⟩] false [])
     (.ret)))))))))))⟩

end Go.Sh
