/- Shadow functions of law8, written by tr.py. -/
import Derived.Test.YtpgipjjhapapjaaShBa
namespace Go.Sh
def F138_spindlelaw8_few_b0 : SCode :=
  .seq
      (.seq
      (.region [⟨some 5, none, .mov (.t 4)⟩,
       ⟨some 6, none, .mov (.t 0)⟩,
       ⟨some 7, none, .len false (.t 6)⟩,
       ⟨some 8, none, .bin .lss (.t 5) (.t 7)⟩] false [])
      (.keep [0, 3, 4, 8] (.cond (.t 8)
       (.skip)
       (.exit 0))))
      (.keep [0, 3, 4] (.seq
      (.block 1 (.seq
       (.region [⟨some 11, none, .mov (.t 3)⟩,
        ⟨some 12, none, .mov (.t 0)⟩,
        ⟨some 13, none, .mov (.t 4)⟩,
        ⟨some 14, none, .iaddr 1 (.t 12) (.t 13)⟩,
        ⟨some 15, none, .load 1 false (.t 14)⟩,
        ⟨some 16, none, .len true (.t 15)⟩,
        ⟨some 17, none, .bin .add (.t 11) (.t 16)⟩,
        ⟨some 18, none, .bin .add (.t 17) (.c (.d (.i .i64 2)))⟩,
        ⟨some 3, none, .mov (.t 18)⟩] false [])
       (.keep [0, 3, 4] (.seq
        (.region [⟨some 19, none, .mov (.t 3)⟩,
         ⟨some 20, none, .bin .mul (.c (.d (.i .i64 4))) (.t 19)⟩,
         ⟨some 21, none, .bin .gtr (.t 20) (.c (.d (.i .i64 2147483647)))⟩] false [])
        (.keep [0, 3, 4, 21] (.cond (.t 21)
        (.keep [] (.seq
         (.region [⟨some 2, none, .mov (.c (.d (.b false)))⟩] false [])
         (.ret)))
        (.skip)))))))
      (.keep [0, 3, 4] (.region [⟨some 9, none, .mov (.t 4)⟩,
       ⟨some 10, none, .bin .add (.t 9) (.c (.d (.i .i64 1)))⟩,
       ⟨some 4, none, .mov (.t 10)⟩] false []))))
/-- spindle/spindlelaw8.few -/
def F138_spindlelaw8_few : SFn := ⟨1, true, true, [.tmp 2],
  .seq
   (.region [⟨some 2, none, .mov (.c (.d (.b false)))⟩] false [])
   (.keep [0] (.seq
   (.region [⟨some 3, none, .mov (.c (.d (.i .i64 0)))⟩] false [])
   (.keep [0, 3] (.seq
    (.seq
    (.region [⟨some 4, none, .mov (.c (.d (.i .i64 0)))⟩] false [])
    (.keep [0, 3, 4] (.block 0 (.loop [0, 3, 4] false F138_spindlelaw8_few_b0))))
    (.keep [] (.seq
    (.region [⟨some 2, none, .mov (.c (.d (.b true)))⟩] false [])
    (.ret)))))))⟩

def F141_spindlelaw8_StrsBack_b0 : SCode :=
  .seq
        (.seq
        (.region [⟨some 30, none, .mov (.t 6)⟩,
         ⟨some 31, none, .mov (.t 0)⟩,
         ⟨some 32, none, .len false (.t 31)⟩,
         ⟨some 33, none, .bin .lss (.t 30) (.t 32)⟩] false [])
        (.keep [0, 3, 4, 5, 6, 33] (.cond (.t 33)
         (.skip)
         (.exit 0))))
        (.keep [0, 3, 4, 5, 6] (.seq
        (.block 1 (.seq
         (.region [⟨some 37, none, .mov (.t 3)⟩,
          ⟨some 38, none, .mov (.t 0)⟩,
          ⟨some 39, none, .mov (.t 6)⟩,
          ⟨some 40, none, .iaddr 1 (.t 38) (.t 39)⟩,
          ⟨some 41, none, .load 1 false (.t 40)⟩,
          ⟨some 42, none, .call 140 [.t 37, .t 41]⟩,
          ⟨some 36, none, .mov (.t 42)⟩,
          ⟨some 43, none, .extract 0 (.t 36)⟩,
          ⟨some 44, none, .extract 1 (.t 36)⟩,
          ⟨some 7, none, .mov (.t 43)⟩,
          ⟨some 8, none, .mov (.t 44)⟩] false [])
         (.keep [0, 3, 4, 5, 6, 7, 8] (.seq
          (.seq
          (.region [⟨some 45, none, .mov (.t 8)⟩,
           ⟨some 46, none, .bin .neq (.t 45) (.c (.d (.i .i64 0)))⟩] false [])
          (.keep [0, 3, 4, 5, 6, 7, 8, 46] (.cond (.t 46)
           (.keep [0, 3, 4, 5, 6, 7, 8] (.seq
           (.seq
            (.region [⟨some 47, none, .mov (.t 7)⟩,
             ⟨some 48, none, .bin .neq (.t 47) (.c (.d (.i .i64 0)))⟩,
             ⟨some 49, none, .mov (.t 48)⟩,
             ⟨some 50, (some (2, false)), .mov (.t 8)⟩,
             ⟨some 51, (some (2, false)), .bin .neq (.t 50) (.c (.d (.i .i64 81)))⟩,
             ⟨some 52, none, .pick (.t 49) (.c (.d (.b true))) (.t 51)⟩] false [])
            (.keep [0, 3, 4, 5, 6, 52] (.cond (.t 52)
            (.keep [] (.seq
             (.region [⟨some 2, none, .mov (.c (.d (.b false)))⟩] false [])
             (.ret)))
            (.skip))))
           (.exit 1)))
           (.skip))))
          (.keep [0, 3, 4, 5, 6, 7] (.seq
          (.region [⟨some 53, none, .mov (.t 4)⟩,
           ⟨some 54, none, .mov (.t 7)⟩,
           ⟨some 55, none, .lits 1 [.i .i64 0] [(0, 1, .t 54)]⟩,
           ⟨some 56, none, .app 1 8 (.t 53) (.t 55)⟩,
           ⟨some 4, none, .mov (.t 56)⟩] false [])
          (.keep [0, 3, 4, 5, 6] (.region [⟨some 57, none, .mov (.t 5)⟩,
           ⟨some 58, none, .mov (.t 0)⟩,
           ⟨some 59, none, .mov (.t 6)⟩,
           ⟨some 60, none, .iaddr 1 (.t 58) (.t 59)⟩,
           ⟨some 61, none, .load 1 false (.t 60)⟩,
           ⟨some 62, none, .lits 1 [.s []] [(0, 1, .t 61)]⟩,
           ⟨some 63, none, .app 1 16 (.t 57) (.t 62)⟩,
           ⟨some 5, none, .mov (.t 63)⟩] false []))))))))
        (.keep [0, 3, 4, 5, 6] (.region [⟨some 34, none, .mov (.t 6)⟩,
         ⟨some 35, none, .bin .add (.t 34) (.c (.d (.i .i64 1)))⟩,
         ⟨some 6, none, .mov (.t 35)⟩] false []))))
def F141_spindlelaw8_StrsBack_b1 : SCode :=
  .seq
          (.seq
          (.region [⟨some 89, none, .mov (.t 14)⟩,
           ⟨some 90, none, .mov (.t 5)⟩,
           ⟨some 91, none, .len false (.t 90)⟩,
           ⟨some 92, none, .bin .lss (.t 89) (.t 91)⟩] false [])
          (.keep [3, 4, 5, 9, 11, 14, 92] (.cond (.t 92)
           (.skip)
           (.exit 2))))
          (.keep [3, 4, 5, 9, 11, 14] (.seq
          (.block 3 (.seq
           (.region [⟨some 95, none, .mov (.t 4)⟩,
            ⟨some 96, none, .mov (.t 14)⟩,
            ⟨some 97, none, .iaddr 1 (.t 95) (.t 96)⟩,
            ⟨some 98, none, .load 1 false (.t 97)⟩,
            ⟨some 15, none, .mov (.t 98)⟩] false [])
           (.keep [3, 4, 5, 9, 11, 14, 15] (.seq
            (.region [⟨some 99, none, .mov (.t 15)⟩,
             ⟨some 100, none, .mov (.t 5)⟩,
             ⟨some 101, none, .mov (.t 14)⟩,
             ⟨some 102, none, .iaddr 1 (.t 100) (.t 101)⟩,
             ⟨some 103, none, .load 1 false (.t 102)⟩,
             ⟨some 104, none, .len true (.t 103)⟩,
             ⟨some 105, none, .bin .add (.t 99) (.t 104)⟩,
             ⟨some 16, none, .mov (.t 105)⟩] false [])
            (.keep [3, 4, 5, 9, 11, 14, 15, 16] (.seq
            (.seq
             (.region [⟨some 106, none, .mov (.t 15)⟩,
              ⟨some 107, none, .bin .lss (.t 106) (.c (.d (.i .i64 1)))⟩,
              ⟨some 108, none, .mov (.t 107)⟩,
              ⟨some 109, (some (2, false)), .mov (.t 16)⟩,
              ⟨some 110, (some (2, false)), .mov (.t 9)⟩,
              ⟨some 111, (some (2, false)), .len false (.t 110)⟩,
              ⟨some 112, (some (2, false)), .bin .geq (.t 109) (.t 111)⟩,
              ⟨some 113, none, .pick (.t 108) (.c (.d (.b true))) (.t 112)⟩,
              ⟨some 114, none, .mov (.t 113)⟩,
              ⟨some 115, (some (8, false)), .mov (.t 9)⟩,
              ⟨some 116, (some (8, false)), .mov (.t 15)⟩,
              ⟨some 117, (some (8, false)), .mov (.t 16)⟩,
              ⟨some 118, (some (8, false)), .slc 1 (.t 115) (some (.t 116)) (some (.t 117)) none⟩,
              ⟨some 119, (some (8, false)), .b2s (.t 118)⟩,
              ⟨some 120, (some (8, false)), .mov (.t 5)⟩,
              ⟨some 121, (some (8, false)), .mov (.t 14)⟩,
              ⟨some 122, (some (8, false)), .iaddr 1 (.t 120) (.t 121)⟩,
              ⟨some 123, (some (8, false)), .load 1 false (.t 122)⟩,
              ⟨some 124, (some (8, false)), .bin .neq (.t 119) (.t 123)⟩,
              ⟨some 125, none, .pick (.t 114) (.c (.d (.b true))) (.t 124)⟩,
              ⟨some 126, none, .mov (.t 125)⟩,
              ⟨some 127, (some (20, false)), .mov (.t 9)⟩,
              ⟨some 128, (some (20, false)), .mov (.t 16)⟩,
              ⟨some 129, (some (20, false)), .iaddr 1 (.t 127) (.t 128)⟩,
              ⟨some 130, (some (20, false)), .load 1 false (.t 129)⟩,
              ⟨some 131, (some (20, false)), .bin .neq (.t 130) (.c (.d (.i .u8 0)))⟩,
              ⟨some 132, none, .pick (.t 126) (.c (.d (.b true))) (.t 131)⟩,
              ⟨some 133, none, .mov (.t 132)⟩,
              ⟨some 134, (some (27, false)), .mov (.t 9)⟩,
              ⟨some 135, (some (27, false)), .mov (.t 15)⟩,
              ⟨some 136, (some (27, false)), .bin .sub (.t 135) (.c (.d (.i .i64 1)))⟩,
              ⟨some 137, (some (27, false)), .iaddr 1 (.t 134) (.t 136)⟩,
              ⟨some 138, (some (27, false)), .load 1 false (.t 137)⟩,
              ⟨some 139, (some (27, false)), .bin .neq (.t 138) (.c (.d (.i .u8 0)))⟩,
              ⟨some 140, none, .pick (.t 133) (.c (.d (.b true))) (.t 139)⟩] true [0, 1, 3, 7, 7, 23, 63, 127, 255, 511, 511, 511, 4095, 8191, 511, 511, 49663, 115199, 262143, 524287, 1048575, 2097151, 2097151, 8388607, 16777215, 33554431, 67108863, 134217727, 268435455, 268435455, 805306367, 2147483647, 4294967295, 8589934591, 17179869183])
             (.keep [3, 4, 5, 9, 11, 14, 15, 140] (.cond (.t 140)
             (.keep [] (.seq
              (.region [⟨some 2, none, .mov (.c (.d (.b false)))⟩] false [])
              (.ret)))
             (.skip))))
            (.keep [3, 4, 5, 9, 11, 14, 15] (.seq
             (.region [⟨some 142, none, .mov (.t 3)⟩,
              ⟨some 143, none, .mov (.t 15)⟩,
              ⟨some 144, none, .call 144 [.t 142, .t 143]⟩,
              ⟨some 141, none, .mov (.t 144)⟩,
              ⟨some 145, none, .extract 0 (.t 141)⟩,
              ⟨some 146, none, .extract 1 (.t 141)⟩,
              ⟨some 17, none, .mov (.t 145)⟩,
              ⟨some 18, none, .mov (.t 146)⟩] false [])
             (.keep [3, 4, 5, 9, 11, 14, 15, 17, 18] (.seq
             (.region [⟨some 148, none, .mov (.t 11)⟩,
              ⟨some 149, none, .mov (.t 15)⟩,
              ⟨some 150, none, .call 144 [.t 148, .t 149]⟩,
              ⟨some 147, none, .mov (.t 150)⟩,
              ⟨some 151, none, .extract 0 (.t 147)⟩,
              ⟨some 152, none, .extract 1 (.t 147)⟩,
              ⟨some 19, none, .mov (.t 151)⟩,
              ⟨some 20, none, .mov (.t 152)⟩] false [])
             (.keep [3, 4, 5, 9, 11, 14, 15, 17, 18, 19, 20] (.seq
              (.region [⟨some 154, none, .mov (.t 11)⟩,
               ⟨some 155, none, .mov (.t 5)⟩,
               ⟨some 156, none, .mov (.t 14)⟩,
               ⟨some 157, none, .iaddr 1 (.t 155) (.t 156)⟩,
               ⟨some 158, none, .load 1 false (.t 157)⟩,
               ⟨some 159, none, .call 140 [.t 154, .t 158]⟩,
               ⟨some 153, none, .mov (.t 159)⟩,
               ⟨some 160, none, .extract 0 (.t 153)⟩,
               ⟨some 161, none, .extract 1 (.t 153)⟩,
               ⟨some 21, none, .mov (.t 160)⟩,
               ⟨some 22, none, .mov (.t 161)⟩] false [])
              (.keep [3, 4, 5, 9, 11, 14, 15, 17, 18, 19, 20, 21, 22] (.seq
              (.region [⟨some 162, none, .mov (.t 17)⟩,
               ⟨some 163, none, .mov (.t 5)⟩,
               ⟨some 164, none, .mov (.t 14)⟩,
               ⟨some 165, none, .iaddr 1 (.t 163) (.t 164)⟩,
               ⟨some 166, none, .load 1 false (.t 165)⟩,
               ⟨some 167, none, .bin .neq (.t 162) (.t 166)⟩,
               ⟨some 168, none, .mov (.t 167)⟩,
               ⟨some 169, (some (6, false)), .mov (.t 19)⟩,
               ⟨some 170, (some (6, false)), .mov (.t 5)⟩,
               ⟨some 171, (some (6, false)), .mov (.t 14)⟩,
               ⟨some 172, (some (6, false)), .iaddr 1 (.t 170) (.t 171)⟩,
               ⟨some 173, (some (6, false)), .load 1 false (.t 172)⟩,
               ⟨some 174, (some (6, false)), .bin .neq (.t 169) (.t 173)⟩,
               ⟨some 175, none, .pick (.t 168) (.c (.d (.b true))) (.t 174)⟩,
               ⟨some 176, none, .mov (.t 175)⟩,
               ⟨some 177, (some (14, false)), .mov (.t 18)⟩,
               ⟨some 178, (some (14, false)), .bin .neq (.t 177) (.c (.d (.i .i64 0)))⟩,
               ⟨some 179, none, .pick (.t 176) (.c (.d (.b true))) (.t 178)⟩,
               ⟨some 180, none, .mov (.t 179)⟩,
               ⟨some 181, (some (18, false)), .mov (.t 20)⟩,
               ⟨some 182, (some (18, false)), .bin .neq (.t 181) (.c (.d (.i .i64 0)))⟩,
               ⟨some 183, none, .pick (.t 180) (.c (.d (.b true))) (.t 182)⟩,
               ⟨some 184, none, .mov (.t 183)⟩,
               ⟨some 185, (some (22, false)), .mov (.t 21)⟩,
               ⟨some 186, (some (22, false)), .mov (.t 15)⟩,
               ⟨some 187, (some (22, false)), .bin .neq (.t 185) (.t 186)⟩,
               ⟨some 188, none, .pick (.t 184) (.c (.d (.b true))) (.t 187)⟩,
               ⟨some 189, none, .mov (.t 188)⟩,
               ⟨some 190, (some (27, false)), .mov (.t 22)⟩,
               ⟨some 191, (some (27, false)), .bin .neq (.t 190) (.c (.d (.i .i64 0)))⟩,
               ⟨some 192, none, .pick (.t 189) (.c (.d (.b true))) (.t 191)⟩] false [])
              (.keep [3, 4, 5, 9, 11, 14, 192] (.cond (.t 192)
               (.keep [] (.seq
               (.region [⟨some 2, none, .mov (.c (.d (.b false)))⟩] false [])
               (.ret)))
               (.skip)))))))))))))))))
          (.keep [3, 4, 5, 9, 11, 14] (.region [⟨some 93, none, .mov (.t 14)⟩,
           ⟨some 94, none, .bin .add (.t 93) (.c (.d (.i .i64 1)))⟩,
           ⟨some 14, none, .mov (.t 94)⟩] false []))))
/-- spindle/spindlelaw8.StrsBack -/
def F141_spindlelaw8_StrsBack : SFn := ⟨1, false, false, [.tmp 2],
  .seq
   (.region [⟨some 2, none, .mov (.c (.d (.b false)))⟩] false [])
   (.keep [0] (.seq
   (.seq
    (.region [⟨some 24, none, .mov (.t 0)⟩,
     ⟨some 25, none, .call 138 [.t 24]⟩,
     ⟨some 26, none, .un .not (.t 25)⟩] false [])
    (.keep [0, 26] (.cond (.t 26)
    (.keep [] (.seq
     (.region [⟨some 2, none, .mov (.c (.d (.b true)))⟩] false [])
     (.ret)))
    (.skip))))
   (.keep [0] (.seq
    (.region [⟨some 27, none, .call 139 []⟩,
     ⟨some 3, none, .mov (.t 27)⟩] false [])
    (.keep [0, 3] (.seq
    (.seq
     (.region [⟨some 28, none, .mov (.t 3)⟩,
      ⟨some 29, none, .eqv false [12] (.t 28) (.c (.d (.np)))⟩] false [])
     (.keep [0, 3, 29] (.cond (.t 29)
     (.keep [] (.seq
      (.region [⟨some 2, none, .mov (.c (.d (.b false)))⟩] false [])
      (.ret)))
     (.skip))))
    (.keep [0, 3] (.seq
     (.region [⟨some 4, none, .mov (.c (.d (.sl 0 false [])))⟩] false [])
     (.keep [0, 3, 4] (.seq
     (.region [⟨some 5, none, .mov (.c (.d (.sl 0 false [])))⟩] false [])
     (.keep [0, 3, 4, 5] (.seq
      (.seq
      (.region [⟨some 6, none, .mov (.c (.d (.i .i64 0)))⟩] false [])
      (.keep [0, 3, 4, 5, 6] (.block 0 (.loop [0, 3, 4, 5, 6] false F141_spindlelaw8_StrsBack_b0))))
      (.keep [3, 4, 5] (.seq
      (.region [⟨some 65, none, .mov (.t 3)⟩,
       ⟨some 66, none, .call 142 [.t 65]⟩,
       ⟨some 64, none, .mov (.t 66)⟩,
       ⟨some 67, none, .extract 0 (.t 64)⟩,
       ⟨some 68, none, .extract 1 (.t 64)⟩,
       ⟨some 9, none, .mov (.t 67)⟩,
       ⟨some 10, none, .mov (.t 68)⟩] false [])
      (.keep [3, 4, 5, 9, 10] (.seq
       (.region [⟨some 70, none, .mov (.t 9)⟩,
        ⟨some 71, none, .call 143 [.t 70]⟩,
        ⟨some 69, none, .mov (.t 71)⟩,
        ⟨some 72, none, .extract 0 (.t 69)⟩,
        ⟨some 73, none, .extract 1 (.t 69)⟩,
        ⟨some 74, none, .extract 2 (.t 69)⟩,
        ⟨some 11, none, .mov (.t 72)⟩,
        ⟨some 12, none, .mov (.t 73)⟩,
        ⟨some 13, none, .mov (.t 74)⟩] false [])
       (.keep [3, 4, 5, 9, 10, 11, 12, 13] (.seq
       (.seq
        (.region [⟨some 75, none, .mov (.t 10)⟩,
         ⟨some 76, none, .bin .neq (.t 75) (.c (.d (.i .i64 0)))⟩,
         ⟨some 77, none, .mov (.t 76)⟩,
         ⟨some 78, (some (2, false)), .mov (.t 13)⟩,
         ⟨some 79, (some (2, false)), .bin .neq (.t 78) (.c (.d (.i .i64 0)))⟩,
         ⟨some 80, none, .pick (.t 77) (.c (.d (.b true))) (.t 79)⟩,
         ⟨some 81, none, .mov (.t 80)⟩,
         ⟨some 82, (some (6, false)), .mov (.t 12)⟩,
         ⟨some 83, (some (6, false)), .bin .neq (.t 82) (.c (.d (.i .i64 0)))⟩,
         ⟨some 84, none, .pick (.t 81) (.c (.d (.b true))) (.t 83)⟩,
         ⟨some 85, none, .mov (.t 84)⟩,
         ⟨some 86, (some (10, false)), .mov (.t 11)⟩,
         ⟨some 87, (some (10, false)), .eqv false [12] (.t 86) (.c (.d (.np)))⟩,
         ⟨some 88, none, .pick (.t 85) (.c (.d (.b true))) (.t 87)⟩] false [])
        (.keep [3, 4, 5, 9, 11, 88] (.cond (.t 88)
        (.keep [] (.seq
         (.region [⟨some 2, none, .mov (.c (.d (.b false)))⟩] false [])
         (.ret)))
        (.skip))))
       (.keep [3, 4, 5, 9, 11] (.seq
        (.seq
        (.region [⟨some 14, none, .mov (.c (.d (.i .i64 0)))⟩] false [])
        (.keep [3, 4, 5, 9, 11, 14] (.block 2 (.loop [3, 4, 5, 9, 11, 14] false F141_spindlelaw8_StrsBack_b1))))
        (.keep [9, 11] (.seq
        (.region [⟨some 194, none, .mov (.t 11)⟩,
         ⟨some 195, none, .call 142 [.t 194]⟩,
         ⟨some 193, none, .mov (.t 195)⟩,
         ⟨some 196, none, .extract 0 (.t 193)⟩,
         ⟨some 197, none, .extract 1 (.t 193)⟩,
         ⟨some 23, none, .mov (.t 196)⟩,
         ⟨some 10, none, .mov (.t 197)⟩] false [])
        (.keep [9, 10, 23] (.seq
         (.region [⟨some 198, none, .mov (.t 10)⟩,
          ⟨some 199, none, .bin .eql (.t 198) (.c (.d (.i .i64 0)))⟩,
          ⟨some 200, none, .mov (.t 199)⟩,
          ⟨some 201, (some (2, true)), .mov (.t 9)⟩,
          ⟨some 202, (some (2, true)), .mov (.t 23)⟩,
          ⟨some 203, (some (2, true)), .call 73 [.t 201, .t 202]⟩,
          ⟨some 204, none, .pick (.t 200) (.t 203) (.c (.d (.b false)))⟩,
          ⟨some 205, none, .mov (.t 204)⟩,
          ⟨some 206, (some (7, true)), .call 145 []⟩,
          ⟨some 207, none, .pick (.t 205) (.t 206) (.c (.d (.b false)))⟩,
          ⟨some 2, none, .mov (.t 207)⟩] false [])
         (.ret)))))))))))))))))))))))))⟩

/-- spindle/spindlelaw8.awake -/
def F145_spindlelaw8_awake : SFn := ⟨0, true, true, [.tmp 0],
  .seq
   (.region [⟨some 0, none, .mov (.c (.d (.b false)))⟩] false [])
   (.keep [] (.seq
   (.region [⟨some 6, none, .call 139 []⟩,
    ⟨some 1, none, .mov (.t 6)⟩] false [])
   (.keep [1] (.seq
    (.seq
    (.region [⟨some 7, none, .mov (.t 1)⟩,
     ⟨some 8, none, .eqv false [12] (.t 7) (.c (.d (.np)))⟩] false [])
    (.keep [1, 8] (.cond (.t 8)
     (.keep [] (.seq
     (.region [⟨some 0, none, .mov (.c (.d (.b false)))⟩] false [])
     (.ret)))
     (.skip))))
    (.keep [1] (.seq
    (.region [⟨some 10, none, .mov (.t 1)⟩,
     ⟨some 11, none, .call 140 [.t 10, .c (.d (.s [97, 98]))]⟩,
     ⟨some 9, none, .mov (.t 11)⟩,
     ⟨some 12, none, .extract 0 (.t 9)⟩,
     ⟨some 13, none, .extract 1 (.t 9)⟩,
     ⟨some 2, none, .mov (.t 12)⟩,
     ⟨some 3, none, .mov (.t 13)⟩] false [])
    (.keep [1, 2, 3] (.seq
     (.region [⟨some 15, none, .mov (.t 1)⟩,
      ⟨some 16, none, .call 144 [.t 15, .c (.d (.i .i64 1))]⟩,
      ⟨some 14, none, .mov (.t 16)⟩,
      ⟨some 17, none, .extract 0 (.t 14)⟩,
      ⟨some 18, none, .extract 1 (.t 14)⟩,
      ⟨some 4, none, .mov (.t 17)⟩,
      ⟨some 5, none, .mov (.t 18)⟩] false [])
     (.keep [2, 3, 4, 5] (.seq
     (.region [⟨some 19, none, .mov (.t 2)⟩,
      ⟨some 20, none, .bin .eql (.t 19) (.c (.d (.i .i64 1)))⟩,
      ⟨some 21, none, .mov (.t 20)⟩,
      ⟨some 22, (some (2, true)), .mov (.t 3)⟩,
      ⟨some 23, (some (2, true)), .bin .eql (.t 22) (.c (.d (.i .i64 0)))⟩,
      ⟨some 24, none, .pick (.t 21) (.t 23) (.c (.d (.b false)))⟩,
      ⟨some 25, none, .mov (.t 24)⟩,
      ⟨some 26, (some (6, true)), .mov (.t 4)⟩,
      ⟨some 27, (some (6, true)), .bin .eql (.t 26) (.c (.d (.s [97, 98])))⟩,
      ⟨some 28, none, .pick (.t 25) (.t 27) (.c (.d (.b false)))⟩,
      ⟨some 29, none, .mov (.t 28)⟩,
      ⟨some 30, (some (10, true)), .mov (.t 5)⟩,
      ⟨some 31, (some (10, true)), .bin .eql (.t 30) (.c (.d (.i .i64 0)))⟩,
      ⟨some 32, none, .pick (.t 29) (.t 31) (.c (.d (.b false)))⟩,
      ⟨some 0, none, .mov (.t 32)⟩] false [])
     (.ret)))))))))))⟩

/-- spindle/spindlelaw8.open -/
def F155_spindlelaw8_open : SFn := ⟨1, false, false, [.tmp 2, .tmp 3],
  .seq
   (.region [⟨some 2, none, .mov (.c (.d (.np)))⟩,
    ⟨some 3, none, .mov (.c (.d (.b false)))⟩] false [])
   (.keep [0] (.seq
   (.seq
    (.region [⟨some 11, none, .mov (.t 0)⟩,
     ⟨some 12, none, .len false (.t 11)⟩,
     ⟨some 13, none, .bin .eql (.t 12) (.c (.d (.i .i64 0)))⟩] false [])
    (.keep [0, 13] (.cond (.t 13)
    (.keep [] (.seq
     (.region [⟨some 14, none, .call 139 []⟩,
      ⟨some 4, none, .mov (.t 14)⟩] false [])
     (.keep [4] (.seq
     (.region [⟨some 15, none, .mov (.t 4)⟩,
      ⟨some 16, none, .build [.np, .sl 0 false []] [(0, 1, .t 15)]⟩,
      ⟨some 17, none, .box (.t 16)⟩,
      ⟨some 18, none, .mov (.t 4)⟩,
      ⟨some 19, none, .eqv true [12] (.t 18) (.c (.d (.np)))⟩,
      ⟨some 2, none, .mov (.t 17)⟩,
      ⟨some 3, none, .mov (.t 19)⟩] false [])
     (.ret)))))
    (.skip))))
   (.keep [0] (.seq
    (.region [⟨some 21, none, .mov (.t 0)⟩,
     ⟨some 22, none, .call 35 [.t 21]⟩,
     ⟨some 23, none, .call 162 [.t 22]⟩,
     ⟨some 20, none, .mov (.t 23)⟩,
     ⟨some 24, none, .extract 0 (.t 20)⟩,
     ⟨some 25, none, .extract 1 (.t 20)⟩,
     ⟨some 26, none, .extract 2 (.t 20)⟩,
     ⟨some 5, none, .alloc [.sl 0 false []]⟩,
     ⟨none, none, .store 1 (.t 5) (.t 24)⟩,
     ⟨some 6, none, .mov (.t 25)⟩,
     ⟨some 7, none, .mov (.t 26)⟩] false [])
    (.keep [0, 5, 6, 7] (.seq
    (.region [⟨some 28, none, .mov (.t 0)⟩,
     ⟨some 29, none, .call 143 [.t 28]⟩,
     ⟨some 27, none, .mov (.t 29)⟩,
     ⟨some 30, none, .extract 0 (.t 27)⟩,
     ⟨some 31, none, .extract 1 (.t 27)⟩,
     ⟨some 32, none, .extract 2 (.t 27)⟩,
     ⟨some 8, none, .mov (.t 30)⟩,
     ⟨some 9, none, .mov (.t 31)⟩,
     ⟨some 10, none, .mov (.t 32)⟩] false [])
    (.keep [5, 6, 7, 8, 9, 10] (.seq
     (.region [⟨some 33, none, .mov (.t 8)⟩,
      ⟨some 34, none, .load 1 true (.t 5)⟩,
      ⟨some 35, none, .build [.np, .sl 0 false []] [(0, 1, .t 33), (1, 1, .t 34)]⟩,
      ⟨some 36, none, .box (.t 35)⟩,
      ⟨some 37, none, .mov (.t 10)⟩,
      ⟨some 38, none, .call 12 [.t 37]⟩,
      ⟨some 39, none, .mov (.t 7)⟩,
      ⟨some 40, none, .bin .eql (.t 38) (.t 39)⟩,
      ⟨some 41, none, .mov (.t 40)⟩,
      ⟨some 42, (some (8, true)), .mov (.t 9)⟩,
      ⟨some 43, (some (8, true)), .mov (.t 6)⟩,
      ⟨some 44, (some (8, true)), .bin .eql (.t 42) (.t 43)⟩,
      ⟨some 45, none, .pick (.t 41) (.t 44) (.c (.d (.b false)))⟩,
      ⟨some 46, none, .mov (.t 45)⟩,
      ⟨some 47, (some (13, true)), .mov (.t 8)⟩,
      ⟨some 48, (some (13, true)), .eqv true [12] (.t 47) (.c (.d (.np)))⟩,
      ⟨some 49, (some (13, true)), .mov (.t 7)⟩,
      ⟨some 50, (some (13, true)), .bin .eql (.t 49) (.c (.d (.i .i64 0)))⟩,
      ⟨some 51, (some (13, true)), .eqv false [1] (.t 48) (.t 50)⟩,
      ⟨some 52, none, .pick (.t 46) (.t 51) (.c (.d (.b false)))⟩,
      ⟨some 2, none, .mov (.t 36)⟩,
      ⟨some 3, none, .mov (.t 52)⟩] true [0, 0, 3, 7, 0, 16, 0, 112, 240, 496, 496, 2032, 4080, 8176, 16368, 32752, 16368, 81904, 262128, 524272, 16383, 2097151])
     (.ret)))))))))⟩

def F156_spindlelaw8_nils_b0 : SCode :=
  .seq
       (.seq
       (.region [⟨some 24, none, .mov (.t 5)⟩,
        ⟨some 25, none, .bin .leq (.t 24) (.c (.d (.i .i64 4)))⟩] false [])
       (.keep [4, 5, 25] (.cond (.t 25)
        (.skip)
        (.exit 0))))
       (.keep [4, 5] (.seq
       (.block 1 (.seq
        (.region [⟨some 28, none, .mov (.t 4)⟩,
         ⟨some 29, none, .mov (.t 5)⟩,
         ⟨some 30, none, .build [.i .i64 0, .i .i64 0, .s [], .i .i64 0] [(1, 1, .t 29), (2, 1, .c (.d (.s [97])))]⟩,
         ⟨some 31, none, .call 163 [.t 28, .t 30]⟩,
         ⟨some 6, none, .mov (.t 31)⟩] false [])
        (.keep [4, 5, 6] (.seq
         (.region [⟨some 32, none, .mov (.t 6)⟩,
          ⟨some 33, none, .un .not (.t 32)⟩] false [])
         (.keep [4, 5, 33] (.cond (.t 33)
         (.keep [] (.seq
          (.region [⟨some 0, none, .mov (.c (.d (.b false)))⟩] false [])
          (.ret)))
         (.skip)))))))
       (.keep [4, 5] (.region [⟨some 26, none, .mov (.t 5)⟩,
        ⟨some 27, none, .bin .add (.t 26) (.c (.d (.i .i64 1)))⟩,
        ⟨some 5, none, .mov (.t 27)⟩] false []))))
/-- spindle/spindlelaw8.nils -/
def F156_spindlelaw8_nils : SFn := ⟨0, true, true, [.tmp 0],
  .seq
   (.region [⟨some 0, none, .mov (.c (.d (.b false)))⟩] false [])
   (.keep [] (.seq
   (.region [⟨some 8, none, .call 143 [.c (.d (.sl 0 false []))]⟩,
    ⟨some 7, none, .mov (.t 8)⟩,
    ⟨some 9, none, .extract 0 (.t 7)⟩,
    ⟨some 10, none, .extract 1 (.t 7)⟩,
    ⟨some 11, none, .extract 2 (.t 7)⟩,
    ⟨some 1, none, .mov (.t 9)⟩,
    ⟨some 2, none, .mov (.t 10)⟩,
    ⟨some 3, none, .mov (.t 11)⟩] false [])
   (.keep [1, 2, 3] (.seq
    (.seq
    (.region [⟨some 12, none, .mov (.t 1)⟩,
     ⟨some 13, none, .eqv true [12] (.t 12) (.c (.d (.np)))⟩,
     ⟨some 14, none, .mov (.t 13)⟩,
     ⟨some 15, (some (2, false)), .mov (.t 2)⟩,
     ⟨some 16, (some (2, false)), .bin .neq (.t 15) (.c (.d (.i .i64 0)))⟩,
     ⟨some 17, none, .pick (.t 14) (.c (.d (.b true))) (.t 16)⟩,
     ⟨some 18, none, .mov (.t 17)⟩,
     ⟨some 19, (some (6, false)), .mov (.t 3)⟩,
     ⟨some 20, (some (6, false)), .bin .neq (.t 19) (.c (.d (.i .i64 80)))⟩,
     ⟨some 21, none, .pick (.t 18) (.c (.d (.b true))) (.t 20)⟩] false [])
    (.keep [21] (.cond (.t 21)
     (.keep [] (.seq
     (.region [⟨some 0, none, .mov (.c (.d (.b false)))⟩] false [])
     (.ret)))
     (.skip))))
    (.keep [] (.seq
    (.region [⟨some 22, none, .build [.np, .sl 0 false []] []⟩,
     ⟨some 23, none, .box (.t 22)⟩,
     ⟨some 4, none, .mov (.t 23)⟩] false [])
    (.keep [4] (.seq
     (.seq
     (.region [⟨some 5, none, .mov (.c (.d (.i .i64 1)))⟩] false [])
     (.keep [4, 5] (.block 0 (.loop [4, 5] false F156_spindlelaw8_nils_b0))))
     (.keep [] (.seq
     (.region [⟨some 0, none, .mov (.c (.d (.b true)))⟩] false [])
     (.ret)))))))))))⟩

/-- (*spindle/spindlelaw8.Desk).act -/
def F157_spindlelaw8_Desk_act : SFn := ⟨2, false, false, [.tmp 4, .tmp 5, .tmp 6],
  .seq
   (.region [⟨some 3, none, .box (.t 1)⟩,
    ⟨some 4, none, .mov (.c (.d (.b false)))⟩,
    ⟨some 5, none, .mov (.c (.d (.sl 0 false [])))⟩,
    ⟨some 6, none, .mov (.c (.d (.sl 0 false [])))⟩] false [])
   (.keep [0, 3] (.seq
   (.seq
    (.region [⟨some 20, none, .mov (.t 0)⟩,
     ⟨some 21, none, .nilChk (.t 20)⟩,
     ⟨some 22, none, .faddr 0 (.t 21)⟩,
     ⟨some 23, none, .load 1 false (.t 22)⟩,
     ⟨some 24, none, .eqv false [12] (.t 23) (.c (.d (.np)))⟩] false [])
    (.keep [0, 3, 24] (.cond (.t 24)
    (.keep [0, 3] (.seq
     (.region [⟨some 25, none, .mov (.t 0)⟩,
      ⟨some 26, none, .load 4 true (.t 3)⟩,
      ⟨some 27, none, .call 163 [.t 25, .t 26]⟩,
      ⟨some 4, none, .mov (.t 27)⟩,
      ⟨some 5, none, .mov (.c (.d (.sl 0 false [])))⟩,
      ⟨some 6, none, .mov (.c (.d (.sl 0 false [])))⟩] false [])
     (.ret)))
    (.skip))))
   (.keep [0, 3] (.seq
    (.seq
    (.region [⟨some 28, none, .faddr 1 (.t 3)⟩,
     ⟨some 29, none, .load 1 false (.t 28)⟩] false [])
    (.keep [0, 3, 29] (.block 0 (.seq
     (.region [⟨some 31, none, .bin .eql (.t 29) (.c (.d (.i .i64 1)))⟩,
      ⟨some 30, none, .mov (.t 31)⟩] false [])
     (.keep [0, 3, 29, 30] (.cond (.t 30)
      (.keep [0, 3] (.seq
      (.region [⟨some 33, none, .mov (.t 0)⟩,
       ⟨some 34, none, .nilChk (.t 33)⟩,
       ⟨some 35, none, .faddr 1 (.t 34)⟩,
       ⟨some 36, none, .load 1 true (.t 35)⟩,
       ⟨some 37, none, .faddr 2 (.t 3)⟩,
       ⟨some 38, none, .load 1 false (.t 37)⟩,
       ⟨some 39, none, .call 164 [.t 36, .t 38]⟩,
       ⟨some 32, none, .mov (.t 39)⟩,
       ⟨some 40, none, .extract 0 (.t 32)⟩,
       ⟨some 41, none, .extract 1 (.t 32)⟩,
       ⟨some 42, none, .extract 2 (.t 32)⟩,
       ⟨some 7, none, .alloc [.sl 0 false []]⟩,
       ⟨none, none, .store 1 (.t 7) (.t 40)⟩,
       ⟨some 8, none, .mov (.t 41)⟩,
       ⟨some 9, none, .mov (.t 42)⟩] true [0, 1, 3, 7, 0, 16, 63, 127, 255, 255, 255, 0, 2559, 7167, 16383])
      (.keep [0, 3, 7, 8, 9] (.seq
       (.region [⟨some 44, none, .mov (.t 0)⟩,
        ⟨some 45, none, .nilChk (.t 44)⟩,
        ⟨some 46, none, .faddr 0 (.t 45)⟩,
        ⟨some 47, none, .load 1 false (.t 46)⟩,
        ⟨some 48, none, .faddr 2 (.t 3)⟩,
        ⟨some 49, none, .load 1 false (.t 48)⟩,
        ⟨some 50, none, .call 140 [.t 47, .t 49]⟩,
        ⟨some 43, none, .mov (.t 50)⟩,
        ⟨some 51, none, .extract 0 (.t 43)⟩,
        ⟨some 52, none, .extract 1 (.t 43)⟩,
        ⟨some 10, none, .mov (.t 51)⟩,
        ⟨some 11, none, .mov (.t 52)⟩] true [0, 1, 3, 7, 0, 16, 63, 127, 255, 255, 511, 2047])
       (.keep [0, 7, 8, 9, 10, 11] (.seq
       (.region [⟨some 53, none, .mov (.t 0)⟩,
        ⟨some 54, none, .load 1 true (.t 7)⟩,
        ⟨some 55, none, .nilChk (.t 53)⟩,
        ⟨some 56, none, .faddr 1 (.t 55)⟩,
        ⟨none, none, .store 1 (.t 56) (.t 54)⟩] false [])
       (.keep [8, 9, 10, 11] (.seq
        (.region [⟨some 57, none, .mov (.t 10)⟩,
         ⟨some 58, none, .mov (.t 8)⟩,
         ⟨some 59, none, .bin .eql (.t 57) (.t 58)⟩,
         ⟨some 60, none, .mov (.t 59)⟩,
         ⟨some 61, (some (3, true)), .mov (.t 11)⟩,
         ⟨some 62, (some (3, true)), .call 12 [.t 61]⟩,
         ⟨some 63, (some (3, true)), .mov (.t 9)⟩,
         ⟨some 64, (some (3, true)), .bin .eql (.t 62) (.t 63)⟩,
         ⟨some 65, none, .pick (.t 60) (.t 64) (.c (.d (.b false)))⟩,
         ⟨some 4, none, .mov (.t 65)⟩,
         ⟨some 5, none, .mov (.c (.d (.sl 0 false [])))⟩,
         ⟨some 6, none, .mov (.c (.d (.sl 0 false [])))⟩] false [])
        (.ret)))))))))
      (.keep [0, 3, 29] (.seq
      (.region [⟨some 67, none, .bin .eql (.t 29) (.c (.d (.i .i64 2)))⟩,
       ⟨some 66, none, .mov (.t 67)⟩] false [])
      (.keep [0, 3, 29, 66] (.cond (.t 66)
       (.keep [0, 3] (.seq
       (.region [⟨some 69, none, .mov (.t 0)⟩,
        ⟨some 70, none, .nilChk (.t 69)⟩,
        ⟨some 71, none, .faddr 1 (.t 70)⟩,
        ⟨some 72, none, .load 1 true (.t 71)⟩,
        ⟨some 73, none, .faddr 3 (.t 3)⟩,
        ⟨some 74, none, .load 1 false (.t 73)⟩,
        ⟨some 75, none, .call 165 [.t 72, .t 74]⟩,
        ⟨some 68, none, .mov (.t 75)⟩,
        ⟨some 76, none, .extract 0 (.t 68)⟩,
        ⟨some 77, none, .extract 1 (.t 68)⟩,
        ⟨some 12, none, .mov (.t 76)⟩,
        ⟨some 13, none, .mov (.t 77)⟩] true [0, 1, 3, 7, 0, 16, 63, 127, 255, 255, 511, 2047])
       (.keep [0, 3, 12, 13] (.seq
        (.region [⟨some 79, none, .mov (.t 0)⟩,
         ⟨some 80, none, .nilChk (.t 79)⟩,
         ⟨some 81, none, .faddr 0 (.t 80)⟩,
         ⟨some 82, none, .load 1 false (.t 81)⟩,
         ⟨some 83, none, .faddr 3 (.t 3)⟩,
         ⟨some 84, none, .load 1 false (.t 83)⟩,
         ⟨some 85, none, .call 144 [.t 82, .t 84]⟩,
         ⟨some 78, none, .mov (.t 85)⟩,
         ⟨some 86, none, .extract 0 (.t 78)⟩,
         ⟨some 87, none, .extract 1 (.t 78)⟩,
         ⟨some 14, none, .mov (.t 86)⟩,
         ⟨some 15, none, .mov (.t 87)⟩] true [0, 1, 3, 7, 0, 16, 63, 127, 255, 255, 511, 2047])
        (.keep [12, 13, 14, 15] (.seq
        (.region [⟨some 88, none, .mov (.t 14)⟩,
         ⟨some 89, none, .mov (.t 12)⟩,
         ⟨some 90, none, .bin .eql (.t 88) (.t 89)⟩,
         ⟨some 91, none, .mov (.t 90)⟩,
         ⟨some 92, (some (3, true)), .mov (.t 15)⟩,
         ⟨some 93, (some (3, true)), .call 12 [.t 92]⟩,
         ⟨some 94, (some (3, true)), .mov (.t 13)⟩,
         ⟨some 95, (some (3, true)), .bin .eql (.t 93) (.t 94)⟩,
         ⟨some 96, none, .pick (.t 91) (.t 95) (.c (.d (.b false)))⟩,
         ⟨some 4, none, .mov (.t 96)⟩,
         ⟨some 5, none, .mov (.c (.d (.sl 0 false [])))⟩,
         ⟨some 6, none, .mov (.c (.d (.sl 0 false [])))⟩] false [])
        (.ret)))))))
       (.keep [0, 29] (.seq
       (.region [⟨some 98, none, .bin .eql (.t 29) (.c (.d (.i .i64 3)))⟩,
        ⟨some 97, none, .mov (.t 98)⟩] false [])
       (.keep [0, 29, 97] (.cond (.t 97)
        (.keep [0] (.seq
        (.region [⟨some 100, none, .mov (.t 0)⟩,
         ⟨some 101, none, .nilChk (.t 100)⟩,
         ⟨some 102, none, .faddr 0 (.t 101)⟩,
         ⟨some 103, none, .load 1 false (.t 102)⟩,
         ⟨some 104, none, .call 166 [.t 103]⟩,
         ⟨some 99, none, .mov (.t 104)⟩,
         ⟨some 105, none, .extract 0 (.t 99)⟩,
         ⟨some 106, none, .extract 1 (.t 99)⟩,
         ⟨some 16, none, .mov (.t 105)⟩,
         ⟨some 17, none, .mov (.t 106)⟩] false [])
        (.keep [0, 16, 17] (.seq
         (.region [⟨some 107, none, .mov (.t 16)⟩,
          ⟨some 108, none, .mov (.t 0)⟩,
          ⟨some 109, none, .nilChk (.t 108)⟩,
          ⟨some 110, none, .faddr 1 (.t 109)⟩,
          ⟨some 111, none, .faddr 0 (.t 110)⟩,
          ⟨some 112, none, .load 1 false (.t 111)⟩,
          ⟨some 113, none, .call 167 [.t 107, .t 112]⟩,
          ⟨some 114, none, .mov (.t 113)⟩,
          ⟨some 115, (some (7, true)), .mov (.t 17)⟩,
          ⟨some 116, (some (7, true)), .bin .eql (.t 115) (.c (.d (.i .i64 0)))⟩,
          ⟨some 117, none, .pick (.t 114) (.t 116) (.c (.d (.b false)))⟩,
          ⟨some 118, none, .mov (.t 16)⟩,
          ⟨some 4, none, .mov (.t 117)⟩,
          ⟨some 5, none, .mov (.c (.d (.sl 0 false [])))⟩,
          ⟨some 6, none, .mov (.t 118)⟩] false [])
         (.ret)))))
        (.keep [0, 29] (.seq
        (.region [⟨some 120, none, .bin .eql (.t 29) (.c (.d (.i .i64 4)))⟩,
         ⟨some 119, none, .mov (.t 120)⟩] false [])
        (.keep [0, 119] (.cond (.t 119)
         (.keep [0] (.seq
         (.region [⟨some 122, none, .mov (.t 0)⟩,
          ⟨some 123, none, .nilChk (.t 122)⟩,
          ⟨some 124, none, .faddr 0 (.t 123)⟩,
          ⟨some 125, none, .load 1 false (.t 124)⟩,
          ⟨some 126, none, .call 142 [.t 125]⟩,
          ⟨some 121, none, .mov (.t 126)⟩,
          ⟨some 127, none, .extract 0 (.t 121)⟩,
          ⟨some 128, none, .extract 1 (.t 121)⟩,
          ⟨some 18, none, .mov (.t 127)⟩,
          ⟨some 19, none, .mov (.t 128)⟩] false [])
         (.keep [0, 18, 19] (.seq
          (.region [⟨some 129, none, .mov (.t 18)⟩,
           ⟨some 130, none, .mov (.t 0)⟩,
           ⟨some 131, none, .nilChk (.t 130)⟩,
           ⟨some 132, none, .faddr 1 (.t 131)⟩,
           ⟨some 133, none, .load 1 true (.t 132)⟩,
           ⟨some 134, none, .call 168 [.t 133]⟩,
           ⟨some 135, none, .call 73 [.t 129, .t 134]⟩,
           ⟨some 136, none, .mov (.t 135)⟩,
           ⟨some 137, (some (7, true)), .mov (.t 19)⟩,
           ⟨some 138, (some (7, true)), .bin .eql (.t 137) (.c (.d (.i .i64 0)))⟩,
           ⟨some 139, none, .pick (.t 136) (.t 138) (.c (.d (.b false)))⟩,
           ⟨some 140, none, .mov (.t 18)⟩,
           ⟨some 4, none, .mov (.t 139)⟩,
           ⟨some 5, none, .mov (.t 140)⟩,
           ⟨some 6, none, .mov (.c (.d (.sl 0 false [])))⟩] false [])
          (.ret)))))
         (.skip)))))))))))))))))))
    (.keep [] (.seq
    (.region [⟨some 4, none, .mov (.c (.d (.b true)))⟩,
     ⟨some 5, none, .mov (.c (.d (.sl 0 false [])))⟩,
     ⟨some 6, none, .mov (.c (.d (.sl 0 false [])))⟩] false [])
    (.ret)))))))⟩

def F158_spindlelaw8_StrsAll_b0 : SCode :=
  .seq
       (.seq
       (.region [⟨some 48, none, .mov (.t 11)⟩,
        ⟨some 49, none, .mov (.t 2)⟩,
        ⟨some 50, none, .len false (.t 49)⟩,
        ⟨some 51, none, .bin .lss (.t 48) (.t 50)⟩] false [])
       (.keep [0, 2, 7, 9, 11, 51] (.cond (.t 51)
        (.skip)
        (.exit 0))))
       (.keep [0, 2, 7, 9, 11] (.seq
       (.block 1 (.seq
        (.region [⟨some 54, none, .mov (.t 7)⟩,
         ⟨some 12, none, .mov (.t 54)⟩] false [])
        (.keep [0, 2, 7, 9, 11, 12] (.seq
         (.seq
         (.region [⟨some 55, none, .mov (.t 2)⟩,
          ⟨some 56, none, .mov (.t 11)⟩,
          ⟨some 57, none, .iaddr 4 (.t 55) (.t 56)⟩,
          ⟨some 58, none, .faddr 0 (.t 57)⟩,
          ⟨some 59, none, .load 1 false (.t 58)⟩,
          ⟨some 60, none, .bin .and (.t 59) (.c (.d (.i .i64 1)))⟩,
          ⟨some 61, none, .bin .eql (.t 60) (.c (.d (.i .i64 1)))⟩] false [])
         (.keep [0, 2, 7, 9, 11, 12, 61] (.cond (.t 61)
          (.keep [0, 2, 7, 9, 11] (.region [⟨some 62, none, .mov (.t 9)⟩,
           ⟨some 12, none, .mov (.t 62)⟩] false []))
          (.skip))))
         (.keep [0, 2, 7, 9, 11, 12] (.seq
         (.region [⟨some 64, none, .mov (.t 12)⟩,
          ⟨some 65, none, .mov (.t 2)⟩,
          ⟨some 66, none, .mov (.t 11)⟩,
          ⟨some 67, none, .iaddr 4 (.t 65) (.t 66)⟩,
          ⟨some 68, none, .load 4 true (.t 67)⟩,
          ⟨some 69, none, .call 157 [.t 64, .t 68]⟩,
          ⟨some 63, none, .mov (.t 69)⟩,
          ⟨some 70, none, .extract 0 (.t 63)⟩,
          ⟨some 71, none, .extract 1 (.t 63)⟩,
          ⟨some 72, none, .extract 2 (.t 63)⟩,
          ⟨some 13, none, .mov (.t 70)⟩,
          ⟨some 14, none, .mov (.t 71)⟩,
          ⟨some 15, none, .mov (.t 72)⟩] false [])
         (.keep [0, 2, 7, 9, 11, 13] (.seq
          (.region [⟨some 73, none, .mov (.t 13)⟩,
           ⟨some 74, none, .un .not (.t 73)⟩] false [])
          (.keep [0, 2, 7, 9, 11, 74] (.cond (.t 74)
          (.keep [] (.seq
           (.region [⟨some 6, none, .mov (.c (.d (.b false)))⟩] false [])
           (.ret)))
          (.skip)))))))))))
       (.keep [0, 2, 7, 9, 11] (.region [⟨some 52, none, .mov (.t 11)⟩,
        ⟨some 53, none, .bin .add (.t 52) (.c (.d (.i .i64 1)))⟩,
        ⟨some 11, none, .mov (.t 53)⟩] false []))))
def F158_spindlelaw8_StrsAll_b1 : SCode :=
  .seq
         (.seq
         (.region [⟨some 86, none, .mov (.t 18)⟩,
          ⟨some 87, none, .mov (.t 17)⟩,
          ⟨some 88, none, .len false (.t 87)⟩,
          ⟨some 89, none, .bin .lss (.t 86) (.t 88)⟩] false [])
         (.keep [7, 9, 16, 17, 18, 89] (.cond (.t 89)
          (.skip)
          (.exit 2))))
         (.keep [7, 9, 16, 17, 18] (.seq
         (.block 3 (.seq
          (.region [⟨some 93, none, .mov (.t 16)⟩,
           ⟨some 94, none, .mov (.t 17)⟩,
           ⟨some 95, none, .mov (.t 18)⟩,
           ⟨some 96, none, .iaddr 4 (.t 94) (.t 95)⟩,
           ⟨some 97, none, .load 4 true (.t 96)⟩,
           ⟨some 98, none, .call 157 [.t 93, .t 97]⟩,
           ⟨some 92, none, .mov (.t 98)⟩,
           ⟨some 99, none, .extract 0 (.t 92)⟩,
           ⟨some 100, none, .extract 1 (.t 92)⟩,
           ⟨some 101, none, .extract 2 (.t 92)⟩,
           ⟨some 19, none, .mov (.t 99)⟩,
           ⟨some 20, none, .mov (.t 100)⟩,
           ⟨some 21, none, .mov (.t 101)⟩] false [])
          (.keep [7, 9, 16, 17, 18, 19] (.seq
           (.region [⟨some 103, none, .mov (.t 7)⟩,
            ⟨some 104, none, .mov (.t 17)⟩,
            ⟨some 105, none, .mov (.t 18)⟩,
            ⟨some 106, none, .bin .sub (.c (.d (.i .i64 2))) (.t 105)⟩,
            ⟨some 107, none, .iaddr 4 (.t 104) (.t 106)⟩,
            ⟨some 108, none, .load 4 true (.t 107)⟩,
            ⟨some 109, none, .call 157 [.t 103, .t 108]⟩,
            ⟨some 102, none, .mov (.t 109)⟩,
            ⟨some 110, none, .extract 0 (.t 102)⟩,
            ⟨some 111, none, .extract 1 (.t 102)⟩,
            ⟨some 112, none, .extract 2 (.t 102)⟩,
            ⟨some 22, none, .mov (.t 110)⟩,
            ⟨some 23, none, .mov (.t 111)⟩,
            ⟨some 24, none, .mov (.t 112)⟩] false [])
           (.keep [7, 9, 16, 17, 18, 19, 22] (.seq
           (.region [⟨some 114, none, .mov (.t 9)⟩,
            ⟨some 115, none, .mov (.t 17)⟩,
            ⟨some 116, none, .mov (.t 18)⟩,
            ⟨some 117, none, .bin .sub (.c (.d (.i .i64 2))) (.t 116)⟩,
            ⟨some 118, none, .iaddr 4 (.t 115) (.t 117)⟩,
            ⟨some 119, none, .load 4 true (.t 118)⟩,
            ⟨some 120, none, .call 157 [.t 114, .t 119]⟩,
            ⟨some 113, none, .mov (.t 120)⟩,
            ⟨some 121, none, .extract 0 (.t 113)⟩,
            ⟨some 122, none, .extract 1 (.t 113)⟩,
            ⟨some 123, none, .extract 2 (.t 113)⟩,
            ⟨some 25, none, .mov (.t 121)⟩,
            ⟨some 26, none, .mov (.t 122)⟩,
            ⟨some 27, none, .mov (.t 123)⟩] false [])
           (.keep [7, 9, 16, 17, 18, 19, 22, 25] (.seq
            (.region [⟨some 124, none, .mov (.t 22)⟩,
             ⟨some 125, none, .un .not (.t 124)⟩,
             ⟨some 126, none, .mov (.t 125)⟩,
             ⟨some 127, (some (2, false)), .mov (.t 25)⟩,
             ⟨some 128, (some (2, false)), .un .not (.t 127)⟩,
             ⟨some 129, none, .pick (.t 126) (.c (.d (.b true))) (.t 128)⟩,
             ⟨some 130, none, .mov (.t 129)⟩,
             ⟨some 131, (some (6, false)), .mov (.t 19)⟩,
             ⟨some 132, (some (6, false)), .un .not (.t 131)⟩,
             ⟨some 133, none, .pick (.t 130) (.c (.d (.b true))) (.t 132)⟩] false [])
            (.keep [7, 9, 16, 17, 18, 133] (.cond (.t 133)
            (.keep [] (.seq
             (.region [⟨some 6, none, .mov (.c (.d (.b false)))⟩] false [])
             (.ret)))
            (.skip)))))))))))
         (.keep [7, 9, 16, 17, 18] (.region [⟨some 90, none, .mov (.t 18)⟩,
          ⟨some 91, none, .bin .add (.t 90) (.c (.d (.i .i64 1)))⟩,
          ⟨some 18, none, .mov (.t 91)⟩] false []))))
/-- spindle/spindlelaw8.StrsAll -/
def F158_spindlelaw8_StrsAll : SFn := ⟨3, false, false, [.tmp 6],
  .seq
   (.region [⟨some 6, none, .mov (.c (.d (.b false)))⟩] false [])
   (.keep [0, 1, 2] (.seq
   (.region [⟨some 29, none, .mov (.t 0)⟩,
    ⟨some 30, none, .call 155 [.t 29]⟩,
    ⟨some 28, none, .mov (.t 30)⟩,
    ⟨some 31, none, .extract 0 (.t 28)⟩,
    ⟨some 32, none, .extract 1 (.t 28)⟩,
    ⟨some 7, none, .mov (.t 31)⟩,
    ⟨some 8, none, .mov (.t 32)⟩] false [])
   (.keep [0, 1, 2, 7, 8] (.seq
    (.region [⟨some 34, none, .mov (.t 1)⟩,
     ⟨some 35, none, .call 155 [.t 34]⟩,
     ⟨some 33, none, .mov (.t 35)⟩,
     ⟨some 36, none, .extract 0 (.t 33)⟩,
     ⟨some 37, none, .extract 1 (.t 33)⟩,
     ⟨some 9, none, .mov (.t 36)⟩,
     ⟨some 10, none, .mov (.t 37)⟩] false [])
    (.keep [0, 2, 7, 8, 9, 10] (.seq
    (.seq
     (.region [⟨some 38, none, .mov (.t 8)⟩,
      ⟨some 39, none, .un .not (.t 38)⟩,
      ⟨some 40, none, .mov (.t 39)⟩,
      ⟨some 41, (some (2, false)), .mov (.t 10)⟩,
      ⟨some 42, (some (2, false)), .un .not (.t 41)⟩,
      ⟨some 43, none, .pick (.t 40) (.c (.d (.b true))) (.t 42)⟩,
      ⟨some 44, none, .mov (.t 43)⟩,
      ⟨some 45, (some (6, false)), .call 156 []⟩,
      ⟨some 46, (some (6, false)), .un .not (.t 45)⟩,
      ⟨some 47, none, .pick (.t 44) (.c (.d (.b true))) (.t 46)⟩] false [])
     (.keep [0, 2, 7, 9, 47] (.cond (.t 47)
     (.keep [] (.seq
      (.region [⟨some 6, none, .mov (.c (.d (.b false)))⟩] false [])
      (.ret)))
     (.skip))))
    (.keep [0, 2, 7, 9] (.seq
     (.seq
     (.region [⟨some 11, none, .mov (.c (.d (.i .i64 0)))⟩] false [])
     (.keep [0, 2, 7, 9, 11] (.block 0 (.loop [0, 2, 7, 9, 11] false F158_spindlelaw8_StrsAll_b0))))
     (.keep [0, 7, 9] (.seq
     (.region [⟨some 76, none, .mov (.t 0)⟩,
      ⟨some 77, none, .call 155 [.t 76]⟩,
      ⟨some 75, none, .mov (.t 77)⟩,
      ⟨some 78, none, .extract 0 (.t 75)⟩,
      ⟨some 79, none, .extract 1 (.t 75)⟩,
      ⟨some 16, none, .mov (.t 78)⟩,
      ⟨some 8, none, .mov (.t 79)⟩] false [])
     (.keep [7, 8, 9, 16] (.seq
      (.seq
      (.region [⟨some 80, none, .mov (.t 8)⟩,
       ⟨some 81, none, .un .not (.t 80)⟩] false [])
      (.keep [7, 9, 16, 81] (.cond (.t 81)
       (.keep [] (.seq
       (.region [⟨some 6, none, .mov (.c (.d (.b false)))⟩] false [])
       (.ret)))
       (.skip))))
      (.keep [7, 9, 16] (.seq
      (.region [⟨some 82, none, .build [.i .i64 0, .i .i64 0, .s [], .i .i64 0] [(1, 1, .c (.d (.i .i64 1))), (2, 1, .c (.d (.s [116, 104, 105, 114, 100])))]⟩,
       ⟨some 83, none, .build [.i .i64 0, .i .i64 0, .s [], .i .i64 0] [(1, 1, .c (.d (.i .i64 3)))]⟩,
       ⟨some 84, none, .build [.i .i64 0, .i .i64 0, .s [], .i .i64 0] [(1, 1, .c (.d (.i .i64 4)))]⟩,
       ⟨some 85, none, .lits 3 [.i .i64 0, .i .i64 0, .s [], .i .i64 0] [(0, 4, .t 82), (4, 4, .t 83), (8, 4, .t 84)]⟩,
       ⟨some 17, none, .mov (.t 85)⟩] false [])
      (.keep [7, 9, 16, 17] (.seq
       (.seq
       (.region [⟨some 18, none, .mov (.c (.d (.i .i64 0)))⟩] false [])
       (.keep [7, 9, 16, 17, 18] (.block 2 (.loop [7, 9, 16, 17, 18] false F158_spindlelaw8_StrsAll_b1))))
       (.keep [] (.seq
       (.region [⟨some 134, none, .call 145 []⟩,
        ⟨some 6, none, .mov (.t 134)⟩] false [])
       (.ret)))))))))))))))))))⟩

def F159_spindlelaw8_turned_b0 : SCode :=
  .seq
      (.seq
      (.region [⟨some 6, none, .mov (.t 4)⟩,
       ⟨some 7, none, .mov (.t 0)⟩,
       ⟨some 8, none, .len false (.t 7)⟩,
       ⟨some 9, none, .bin .lss (.t 6) (.t 8)⟩] false [])
      (.keep [0, 3, 4, 9] (.cond (.t 9)
       (.skip)
       (.exit 0))))
      (.keep [0, 3, 4] (.seq
      (.block 1 (.seq
       (.region [⟨some 12, none, .mov (.t 0)⟩,
        ⟨some 13, none, .mov (.t 4)⟩,
        ⟨some 14, none, .iaddr 1 (.t 12) (.t 13)⟩,
        ⟨some 15, none, .load 1 false (.t 14)⟩,
        ⟨some 5, none, .mov (.t 15)⟩] false [])
       (.keep [0, 3, 4, 5] (.seq
        (.seq
        (.region [⟨some 16, none, .mov (.t 5)⟩,
         ⟨some 17, none, .bin .gtr (.t 16) (.c (.d (.i .u8 1)))⟩] false [])
        (.keep [0, 3, 4, 5, 17] (.cond (.t 17)
         (.keep [0, 3, 4, 5] (.region [⟨some 18, none, .mov (.t 5)⟩,
          ⟨some 19, none, .bin .sub (.t 18) (.c (.d (.i .u8 1)))⟩,
          ⟨some 5, none, .mov (.t 19)⟩] false []))
         (.skip))))
        (.keep [0, 3, 4, 5] (.region [⟨some 20, none, .mov (.t 3)⟩,
         ⟨some 21, none, .mov (.t 5)⟩,
         ⟨some 22, none, .lits 1 [.i .u8 0] [(0, 1, .t 21)]⟩,
         ⟨some 23, none, .app 1 1 (.t 20) (.t 22)⟩,
         ⟨some 3, none, .mov (.t 23)⟩] false []))))))
      (.keep [0, 3, 4] (.region [⟨some 10, none, .mov (.t 4)⟩,
       ⟨some 11, none, .bin .add (.t 10) (.c (.d (.i .i64 1)))⟩,
       ⟨some 4, none, .mov (.t 11)⟩] false []))))
/-- spindle/spindlelaw8.turned -/
def F159_spindlelaw8_turned : SFn := ⟨1, true, true, [.tmp 2],
  .seq
   (.region [⟨some 2, none, .mov (.c (.d (.sl 0 false [])))⟩] false [])
   (.keep [0] (.seq
   (.region [⟨some 3, none, .mov (.c (.d (.sl 0 false [])))⟩] false [])
   (.keep [0, 3] (.seq
    (.seq
    (.region [⟨some 4, none, .mov (.c (.d (.i .i64 0)))⟩] false [])
    (.keep [0, 3, 4] (.block 0 (.loop [0, 3, 4] false F159_spindlelaw8_turned_b0))))
    (.keep [3] (.seq
    (.region [⟨some 24, none, .mov (.t 3)⟩,
     ⟨some 2, none, .mov (.t 24)⟩] false [])
    (.ret)))))))⟩

/-- spindle/spindlelaw8.read -/
def F160_spindlelaw8_read : SFn := ⟨2, false, false, [.tmp 4],
  .seq
   (.region [⟨some 4, none, .mov (.c (.d (.b false)))⟩] false [])
   (.keep [0, 1] (.seq
   (.region [⟨some 16, none, .mov (.t 0)⟩,
    ⟨some 17, none, .call 35 [.t 16]⟩,
    ⟨some 18, none, .call 162 [.t 17]⟩,
    ⟨some 15, none, .mov (.t 18)⟩,
    ⟨some 19, none, .extract 0 (.t 15)⟩,
    ⟨some 20, none, .extract 1 (.t 15)⟩,
    ⟨some 21, none, .extract 2 (.t 15)⟩,
    ⟨some 5, none, .alloc [.sl 0 false []]⟩,
    ⟨none, none, .store 1 (.t 5) (.t 19)⟩,
    ⟨some 6, none, .mov (.t 20)⟩,
    ⟨some 7, none, .mov (.t 21)⟩] false [])
   (.keep [0, 1, 5, 6, 7] (.seq
    (.region [⟨some 23, none, .mov (.t 1)⟩,
     ⟨some 24, none, .mov (.t 0)⟩,
     ⟨some 25, none, .call 169 [.t 23, .t 24]⟩,
     ⟨some 26, none, .call 143 [.t 25]⟩,
     ⟨some 22, none, .mov (.t 26)⟩,
     ⟨some 27, none, .extract 0 (.t 22)⟩,
     ⟨some 28, none, .extract 1 (.t 22)⟩,
     ⟨some 29, none, .extract 2 (.t 22)⟩,
     ⟨some 8, none, .mov (.t 27)⟩,
     ⟨some 9, none, .mov (.t 28)⟩,
     ⟨some 10, none, .mov (.t 29)⟩] false [])
    (.keep [0, 1, 5, 6, 7, 8, 9, 10] (.seq
    (.region [⟨some 30, none, .mov (.t 1)⟩,
     ⟨some 31, none, .mov (.t 0)⟩,
     ⟨some 32, none, .call 170 [.t 30, .t 31]⟩,
     ⟨some 11, none, .mov (.t 32)⟩] false [])
    (.keep [0, 5, 6, 7, 8, 9, 10, 11] (.seq
     (.seq
     (.region [⟨some 33, none, .mov (.t 11)⟩,
      ⟨some 34, none, .un .not (.t 33)⟩,
      ⟨some 35, none, .mov (.t 34)⟩,
      ⟨some 36, (some (2, false)), .mov (.t 10)⟩,
      ⟨some 37, (some (2, false)), .call 12 [.t 36]⟩,
      ⟨some 38, (some (2, false)), .mov (.t 7)⟩,
      ⟨some 39, (some (2, false)), .bin .neq (.t 37) (.t 38)⟩,
      ⟨some 40, none, .pick (.t 35) (.c (.d (.b true))) (.t 39)⟩,
      ⟨some 41, none, .mov (.t 40)⟩,
      ⟨some 42, (some (8, false)), .mov (.t 9)⟩,
      ⟨some 43, (some (8, false)), .mov (.t 6)⟩,
      ⟨some 44, (some (8, false)), .bin .neq (.t 42) (.t 43)⟩,
      ⟨some 45, none, .pick (.t 41) (.c (.d (.b true))) (.t 44)⟩,
      ⟨some 46, none, .mov (.t 45)⟩,
      ⟨some 47, (some (13, false)), .mov (.t 8)⟩,
      ⟨some 48, (some (13, false)), .eqv true [12] (.t 47) (.c (.d (.np)))⟩,
      ⟨some 49, (some (13, false)), .mov (.t 7)⟩,
      ⟨some 50, (some (13, false)), .bin .eql (.t 49) (.c (.d (.i .i64 0)))⟩,
      ⟨some 51, (some (13, false)), .eqv true [1] (.t 48) (.t 50)⟩,
      ⟨some 52, none, .pick (.t 46) (.c (.d (.b true))) (.t 51)⟩] false [])
     (.keep [0, 5, 8, 52] (.cond (.t 52)
      (.keep [] (.seq
      (.region [⟨some 4, none, .mov (.c (.d (.b false)))⟩] false [])
      (.ret)))
      (.skip))))
     (.keep [0, 5, 8] (.seq
     (.seq
      (.region [⟨some 53, none, .mov (.t 8)⟩,
       ⟨some 54, none, .eqv false [12] (.t 53) (.c (.d (.np)))⟩] false [])
      (.keep [0, 5, 8, 54] (.cond (.t 54)
      (.keep [] (.seq
       (.region [⟨some 4, none, .mov (.c (.d (.b true)))⟩] false [])
       (.ret)))
      (.skip))))
     (.keep [0, 5, 8] (.seq
      (.region [⟨some 56, none, .mov (.t 8)⟩,
       ⟨some 57, none, .call 166 [.t 56]⟩,
       ⟨some 55, none, .mov (.t 57)⟩,
       ⟨some 58, none, .extract 0 (.t 55)⟩,
       ⟨some 59, none, .extract 1 (.t 55)⟩,
       ⟨some 12, none, .mov (.t 58)⟩,
       ⟨some 10, none, .mov (.t 59)⟩] false [])
      (.keep [0, 5, 8, 10, 12] (.seq
      (.region [⟨some 61, none, .mov (.t 8)⟩,
       ⟨some 62, none, .call 142 [.t 61]⟩,
       ⟨some 60, none, .mov (.t 62)⟩,
       ⟨some 63, none, .extract 0 (.t 60)⟩,
       ⟨some 64, none, .extract 1 (.t 60)⟩,
       ⟨some 13, none, .mov (.t 63)⟩,
       ⟨some 14, none, .mov (.t 64)⟩] false [])
      (.keep [0, 5, 10, 12, 13, 14] (.seq
       (.region [⟨some 65, none, .mov (.t 10)⟩,
        ⟨some 66, none, .bin .eql (.t 65) (.c (.d (.i .i64 0)))⟩,
        ⟨some 67, none, .mov (.t 66)⟩,
        ⟨some 68, (some (2, true)), .mov (.t 14)⟩,
        ⟨some 69, (some (2, true)), .bin .eql (.t 68) (.c (.d (.i .i64 0)))⟩,
        ⟨some 70, none, .pick (.t 67) (.t 69) (.c (.d (.b false)))⟩,
        ⟨some 71, none, .mov (.t 70)⟩,
        ⟨some 72, (some (6, true)), .mov (.t 12)⟩,
        ⟨some 73, (some (6, true)), .faddr 0 (.t 5)⟩,
        ⟨some 74, (some (6, true)), .load 1 false (.t 73)⟩,
        ⟨some 75, (some (6, true)), .call 167 [.t 72, .t 74]⟩,
        ⟨some 76, none, .pick (.t 71) (.t 75) (.c (.d (.b false)))⟩,
        ⟨some 77, none, .mov (.t 76)⟩,
        ⟨some 78, (some (12, true)), .mov (.t 13)⟩,
        ⟨some 79, (some (12, true)), .mov (.t 0)⟩,
        ⟨some 80, (some (12, true)), .call 73 [.t 78, .t 79]⟩,
        ⟨some 81, none, .pick (.t 77) (.t 80) (.c (.d (.b false)))⟩,
        ⟨some 4, none, .mov (.t 81)⟩] false [])
       (.ret)))))))))))))))))⟩

/-- spindle/spindlelaw8.StrsReads -/
def F161_spindlelaw8_StrsReads : SFn := ⟨1, false, false, [.tmp 2],
  .seq
   (.region [⟨some 2, none, .mov (.c (.d (.b false)))⟩] false [])
   (.keep [0] (.seq
   (.region [⟨some 4, none, .build [.sl 0 false [], .i .i64 0] []⟩,
    ⟨some 5, none, .box (.t 4)⟩,
    ⟨some 3, none, .mov (.t 5)⟩] false [])
   (.keep [0, 3] (.seq
    (.region [⟨some 6, none, .mov (.t 0)⟩,
     ⟨some 7, none, .call 159 [.t 6]⟩,
     ⟨some 8, none, .mov (.t 3)⟩,
     ⟨some 9, none, .call 160 [.t 7, .t 8]⟩,
     ⟨some 10, none, .mov (.t 9)⟩,
     ⟨some 11, (some (4, true)), .mov (.t 0)⟩,
     ⟨some 12, (some (4, true)), .mov (.t 3)⟩,
     ⟨some 13, (some (4, true)), .call 160 [.t 11, .t 12]⟩,
     ⟨some 14, none, .pick (.t 10) (.t 13) (.c (.d (.b false)))⟩,
     ⟨some 15, none, .mov (.t 14)⟩,
     ⟨some 16, (some (9, true)), .mov (.t 0)⟩,
     ⟨some 17, (some (9, true)), .mov (.t 3)⟩,
     ⟨some 18, (some (9, true)), .call 160 [.t 16, .t 17]⟩,
     ⟨some 19, none, .pick (.t 15) (.t 18) (.c (.d (.b false)))⟩,
     ⟨some 20, none, .mov (.t 19)⟩,
     ⟨some 21, (some (14, true)), .call 145 []⟩,
     ⟨some 22, none, .pick (.t 20) (.t 21) (.c (.d (.b false)))⟩,
     ⟨some 2, none, .mov (.t 22)⟩] false [])
    (.ret)))))⟩

/-- (*spindle/spindlelaw8.Desk).nothing -/
def F163_spindlelaw8_Desk_nothing : SFn := ⟨2, true, false, [.tmp 4],
  .seq
   (.region [⟨some 3, none, .box (.t 1)⟩,
    ⟨some 4, none, .mov (.c (.d (.b false)))⟩] false [])
   (.keep [0, 3] (.seq
   (.seq
    (.region [⟨some 13, none, .faddr 1 (.t 3)⟩,
     ⟨some 14, none, .load 1 false (.t 13)⟩] false [])
    (.keep [0, 3, 14] (.block 0 (.seq
     (.region [⟨some 16, none, .bin .eql (.t 14) (.c (.d (.i .i64 1)))⟩,
      ⟨some 15, none, .mov (.t 16)⟩] false [])
     (.keep [0, 3, 14, 15] (.cond (.t 15)
     (.keep [0, 3] (.seq
      (.region [⟨some 18, none, .mov (.t 0)⟩,
       ⟨some 19, none, .nilChk (.t 18)⟩,
       ⟨some 20, none, .faddr 0 (.t 19)⟩,
       ⟨some 21, none, .load 1 false (.t 20)⟩,
       ⟨some 22, none, .faddr 2 (.t 3)⟩,
       ⟨some 23, none, .load 1 false (.t 22)⟩,
       ⟨some 24, none, .call 140 [.t 21, .t 23]⟩,
       ⟨some 17, none, .mov (.t 24)⟩,
       ⟨some 25, none, .extract 0 (.t 17)⟩,
       ⟨some 26, none, .extract 1 (.t 17)⟩,
       ⟨some 5, none, .mov (.t 25)⟩,
       ⟨some 6, none, .mov (.t 26)⟩] true [0, 1, 3, 7, 0, 16, 63, 127, 255, 255, 511, 2047])
      (.keep [5, 6] (.seq
      (.region [⟨some 27, none, .mov (.t 5)⟩,
       ⟨some 28, none, .bin .eql (.t 27) (.c (.d (.i .i64 0)))⟩,
       ⟨some 29, none, .mov (.t 28)⟩,
       ⟨some 30, (some (2, true)), .mov (.t 6)⟩,
       ⟨some 31, (some (2, true)), .bin .eql (.t 30) (.c (.d (.i .i64 1)))⟩,
       ⟨some 32, none, .pick (.t 29) (.t 31) (.c (.d (.b false)))⟩,
       ⟨some 4, none, .mov (.t 32)⟩] false [])
      (.ret)))))
     (.keep [0, 3, 14] (.seq
      (.region [⟨some 34, none, .bin .eql (.t 14) (.c (.d (.i .i64 2)))⟩,
       ⟨some 33, none, .mov (.t 34)⟩] false [])
      (.keep [0, 3, 14, 33] (.cond (.t 33)
      (.keep [0, 3] (.seq
       (.region [⟨some 36, none, .mov (.t 0)⟩,
        ⟨some 37, none, .nilChk (.t 36)⟩,
        ⟨some 38, none, .faddr 0 (.t 37)⟩,
        ⟨some 39, none, .load 1 false (.t 38)⟩,
        ⟨some 40, none, .faddr 3 (.t 3)⟩,
        ⟨some 41, none, .load 1 false (.t 40)⟩,
        ⟨some 42, none, .call 144 [.t 39, .t 41]⟩,
        ⟨some 35, none, .mov (.t 42)⟩,
        ⟨some 43, none, .extract 0 (.t 35)⟩,
        ⟨some 44, none, .extract 1 (.t 35)⟩,
        ⟨some 7, none, .mov (.t 43)⟩,
        ⟨some 8, none, .mov (.t 44)⟩] true [0, 1, 3, 7, 0, 16, 63, 127, 255, 255, 511, 2047])
       (.keep [7, 8] (.seq
       (.region [⟨some 45, none, .mov (.t 7)⟩,
        ⟨some 46, none, .bin .eql (.t 45) (.c (.d (.s [])))⟩,
        ⟨some 47, none, .mov (.t 46)⟩,
        ⟨some 48, (some (2, true)), .mov (.t 8)⟩,
        ⟨some 49, (some (2, true)), .bin .eql (.t 48) (.c (.d (.i .i64 1)))⟩,
        ⟨some 50, none, .pick (.t 47) (.t 49) (.c (.d (.b false)))⟩,
        ⟨some 4, none, .mov (.t 50)⟩] false [])
       (.ret)))))
      (.keep [0, 14] (.seq
       (.region [⟨some 52, none, .bin .eql (.t 14) (.c (.d (.i .i64 3)))⟩,
        ⟨some 51, none, .mov (.t 52)⟩] false [])
       (.keep [0, 14, 51] (.cond (.t 51)
       (.keep [0] (.seq
        (.region [⟨some 54, none, .mov (.t 0)⟩,
         ⟨some 55, none, .nilChk (.t 54)⟩,
         ⟨some 56, none, .faddr 0 (.t 55)⟩,
         ⟨some 57, none, .load 1 false (.t 56)⟩,
         ⟨some 58, none, .call 166 [.t 57]⟩,
         ⟨some 53, none, .mov (.t 58)⟩,
         ⟨some 59, none, .extract 0 (.t 53)⟩,
         ⟨some 60, none, .extract 1 (.t 53)⟩,
         ⟨some 9, none, .mov (.t 59)⟩,
         ⟨some 10, none, .mov (.t 60)⟩] false [])
        (.keep [9, 10] (.seq
        (.region [⟨some 61, none, .mov (.t 9)⟩,
         ⟨some 62, none, .len false (.t 61)⟩,
         ⟨some 63, none, .bin .eql (.t 62) (.c (.d (.i .i64 0)))⟩,
         ⟨some 64, none, .mov (.t 63)⟩,
         ⟨some 65, (some (3, true)), .mov (.t 10)⟩,
         ⟨some 66, (some (3, true)), .bin .eql (.t 65) (.c (.d (.i .i64 1)))⟩,
         ⟨some 67, none, .pick (.t 64) (.t 66) (.c (.d (.b false)))⟩,
         ⟨some 4, none, .mov (.t 67)⟩] false [])
        (.ret)))))
       (.keep [0, 14] (.seq
        (.region [⟨some 69, none, .bin .eql (.t 14) (.c (.d (.i .i64 4)))⟩,
         ⟨some 68, none, .mov (.t 69)⟩] false [])
        (.keep [0, 68] (.cond (.t 68)
        (.keep [0] (.seq
         (.region [⟨some 71, none, .mov (.t 0)⟩,
          ⟨some 72, none, .nilChk (.t 71)⟩,
          ⟨some 73, none, .faddr 0 (.t 72)⟩,
          ⟨some 74, none, .load 1 false (.t 73)⟩,
          ⟨some 75, none, .call 142 [.t 74]⟩,
          ⟨some 70, none, .mov (.t 75)⟩,
          ⟨some 76, none, .extract 0 (.t 70)⟩,
          ⟨some 77, none, .extract 1 (.t 70)⟩,
          ⟨some 11, none, .mov (.t 76)⟩,
          ⟨some 12, none, .mov (.t 77)⟩] false [])
         (.keep [11, 12] (.seq
         (.region [⟨some 78, none, .mov (.t 11)⟩,
          ⟨some 79, none, .len false (.t 78)⟩,
          ⟨some 80, none, .bin .eql (.t 79) (.c (.d (.i .i64 0)))⟩,
          ⟨some 81, none, .mov (.t 80)⟩,
          ⟨some 82, (some (3, true)), .mov (.t 12)⟩,
          ⟨some 83, (some (3, true)), .bin .eql (.t 82) (.c (.d (.i .i64 1)))⟩,
          ⟨some 84, none, .pick (.t 81) (.t 83) (.c (.d (.b false)))⟩,
          ⟨some 4, none, .mov (.t 84)⟩] false [])
         (.ret)))))
        (.skip)))))))))))))))))))
   (.keep [] (.seq
    (.region [⟨some 4, none, .mov (.c (.d (.b true)))⟩] false [])
    (.ret)))))⟩
end Go.Sh
