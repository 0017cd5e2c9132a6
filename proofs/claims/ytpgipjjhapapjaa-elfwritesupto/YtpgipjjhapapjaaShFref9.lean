/- Shadow functions of ref9, written by tr.py. -/
import Derived.Test.YtpgipjjhapapjaaShBa
namespace Go.Sh
def F176_spindleref9_CopySections_b0 : SCode :=
  .seq
      (.seq
      (.region [⟨some 6, none, .mov (.t 4)⟩,
       ⟨some 7, none, .mov (.t 0)⟩,
       ⟨some 8, none, .len false (.t 7)⟩,
       ⟨some 9, none, .bin .lss (.t 6) (.t 8)⟩] false [])
      (.keep [0, 3, 4, 9] (.cond (.t 9)
       (.skip)
       (.exit 0))))
      (.keep [0, 3, 4] (.seq
      (.block 1 (.seq
       (.region [⟨some 12, none, .mov (.t 0)⟩,
        ⟨some 13, none, .mov (.t 4)⟩,
        ⟨some 14, none, .iaddr 8 (.t 12) (.t 13)⟩,
        ⟨some 15, none, .load 8 true (.t 14)⟩,
        ⟨some 5, none, .alloc [.s [], .i .i64 0, .i .i64 0, .i .i64 0, .i .i64 0, .i .i64 0, .i .i64 0, .sl 0 false []]⟩,
        ⟨none, none, .store 8 (.t 5) (.t 15)⟩] false [])
       (.keep [0, 3, 4, 5] (.seq
        (.region [⟨some 16, none, .litsO 0 [.i .u8 0] []⟩,
         ⟨some 17, none, .faddr 7 (.t 5)⟩,
         ⟨some 18, none, .load 1 false (.t 17)⟩,
         ⟨some 19, none, .app 1 1 (.t 16) (.t 18)⟩,
         ⟨some 20, none, .faddr 7 (.t 5)⟩,
         ⟨none, none, .store 1 (.t 20) (.t 19)⟩] false [])
        (.keep [0, 3, 4, 5] (.region [⟨some 21, none, .mov (.t 3)⟩,
         ⟨some 22, none, .load 8 true (.t 5)⟩,
         ⟨some 23, none, .lits 1 [.s [], .i .i64 0, .i .i64 0, .i .i64 0, .i .i64 0, .i .i64 0, .i .i64 0, .sl 0 false []] [(0, 8, .t 22)]⟩,
         ⟨some 24, none, .app 8 88 (.t 21) (.t 23)⟩,
         ⟨some 3, none, .mov (.t 24)⟩] false []))))))
      (.keep [0, 3, 4] (.region [⟨some 10, none, .mov (.t 4)⟩,
       ⟨some 11, none, .bin .add (.t 10) (.c (.d (.i .i64 1)))⟩,
       ⟨some 4, none, .mov (.t 11)⟩] false []))))
/-- spindle/spindleref9.CopySections -/
def F176_spindleref9_CopySections : SFn := ⟨1, true, true, [.tmp 2],
  .seq
   (.region [⟨some 2, none, .mov (.c (.d (.sl 0 false [])))⟩] false [])
   (.keep [0] (.seq
   (.region [⟨some 3, none, .tok 8 (.c (.d (.sl 0 false [])))⟩] false [])
   (.keep [0, 3] (.seq
    (.seq
    (.region [⟨some 4, none, .mov (.c (.d (.i .i64 0)))⟩] false [])
    (.keep [0, 3, 4] (.block 0 (.loop [0, 3, 4] true F176_spindleref9_CopySections_b0))))
    (.keep [3] (.seq
    (.region [⟨some 25, none, .mov (.t 3)⟩,
     ⟨some 2, none, .mov (.t 25)⟩] false [])
    (.ret)))))))⟩

def F179_spindleref9_SameSections_b0 : SCode :=
  .seq
      (.seq
      (.region [⟨some 11, none, .mov (.t 5)⟩,
       ⟨some 12, none, .mov (.t 0)⟩,
       ⟨some 13, none, .len false (.t 12)⟩,
       ⟨some 14, none, .bin .lss (.t 11) (.t 13)⟩] false [])
      (.keep [0, 1, 5, 14] (.cond (.t 14)
       (.skip)
       (.exit 0))))
      (.keep [0, 1, 5] (.seq
      (.block 1 (.seq
       (.region [⟨some 17, none, .mov (.t 0)⟩,
        ⟨some 18, none, .mov (.t 5)⟩,
        ⟨some 19, none, .iaddr 8 (.t 17) (.t 18)⟩,
        ⟨some 20, none, .load 8 true (.t 19)⟩,
        ⟨some 21, none, .mov (.t 1)⟩,
        ⟨some 22, none, .mov (.t 5)⟩,
        ⟨some 23, none, .iaddr 8 (.t 21) (.t 22)⟩,
        ⟨some 24, none, .load 8 true (.t 23)⟩,
        ⟨some 25, none, .call 185 [.t 20, .t 24]⟩,
        ⟨some 26, none, .un .not (.t 25)⟩] true [0, 0, 3, 7, 0, 0, 48, 112, 255, 511])
       (.keep [0, 1, 5, 26] (.cond (.t 26)
        (.keep [] (.seq
        (.region [⟨some 4, none, .mov (.c (.d (.b false)))⟩] false [])
        (.ret)))
        (.skip)))))
      (.keep [0, 1, 5] (.region [⟨some 15, none, .mov (.t 5)⟩,
       ⟨some 16, none, .bin .add (.t 15) (.c (.d (.i .i64 1)))⟩,
       ⟨some 5, none, .mov (.t 16)⟩] false []))))
/-- spindle/spindleref9.SameSections -/
def F179_spindleref9_SameSections : SFn := ⟨2, true, true, [.tmp 4],
  .seq
   (.region [⟨some 4, none, .mov (.c (.d (.b false)))⟩] false [])
   (.keep [0, 1] (.seq
   (.seq
    (.region [⟨some 6, none, .mov (.t 0)⟩,
     ⟨some 7, none, .len false (.t 6)⟩,
     ⟨some 8, none, .mov (.t 1)⟩,
     ⟨some 9, none, .len false (.t 8)⟩,
     ⟨some 10, none, .bin .neq (.t 7) (.t 9)⟩] false [])
    (.keep [0, 1, 10] (.cond (.t 10)
    (.keep [] (.seq
     (.region [⟨some 4, none, .mov (.c (.d (.b false)))⟩] false [])
     (.ret)))
    (.skip))))
   (.keep [0, 1] (.seq
    (.seq
    (.region [⟨some 5, none, .mov (.c (.d (.i .i64 0)))⟩] false [])
    (.keep [0, 1, 5] (.block 0 (.loop [0, 1, 5] false F179_spindleref9_SameSections_b0))))
    (.keep [] (.seq
    (.region [⟨some 4, none, .mov (.c (.d (.b true)))⟩] false [])
    (.ret)))))))⟩

/-- spindle/spindleref9.SameSection -/
def F185_spindleref9_SameSection : SFn := ⟨2, true, true, [.tmp 4],
  .seq
   (.region [⟨some 2, none, .box (.t 0)⟩,
    ⟨some 3, none, .box (.t 1)⟩,
    ⟨some 4, none, .mov (.c (.d (.b false)))⟩] false [])
   (.keep [2, 3] (.seq
   (.region [⟨some 5, none, .faddr 0 (.t 2)⟩,
    ⟨some 6, none, .load 1 false (.t 5)⟩,
    ⟨some 7, none, .faddr 0 (.t 3)⟩,
    ⟨some 8, none, .load 1 false (.t 7)⟩,
    ⟨some 9, none, .bin .eql (.t 6) (.t 8)⟩,
    ⟨some 10, none, .mov (.t 9)⟩,
    ⟨some 11, (some (5, true)), .faddr 1 (.t 2)⟩,
    ⟨some 12, (some (5, true)), .load 1 false (.t 11)⟩,
    ⟨some 13, (some (5, true)), .faddr 1 (.t 3)⟩,
    ⟨some 14, (some (5, true)), .load 1 false (.t 13)⟩,
    ⟨some 15, (some (5, true)), .bin .eql (.t 12) (.t 14)⟩,
    ⟨some 16, none, .pick (.t 10) (.t 15) (.c (.d (.b false)))⟩,
    ⟨some 17, none, .mov (.t 16)⟩,
    ⟨some 18, (some (12, true)), .faddr 2 (.t 2)⟩,
    ⟨some 19, (some (12, true)), .load 1 false (.t 18)⟩,
    ⟨some 20, (some (12, true)), .faddr 2 (.t 3)⟩,
    ⟨some 21, (some (12, true)), .load 1 false (.t 20)⟩,
    ⟨some 22, (some (12, true)), .bin .eql (.t 19) (.t 21)⟩,
    ⟨some 23, none, .pick (.t 17) (.t 22) (.c (.d (.b false)))⟩,
    ⟨some 24, none, .mov (.t 23)⟩,
    ⟨some 25, (some (19, true)), .faddr 3 (.t 2)⟩,
    ⟨some 26, (some (19, true)), .load 1 false (.t 25)⟩,
    ⟨some 27, (some (19, true)), .faddr 3 (.t 3)⟩,
    ⟨some 28, (some (19, true)), .load 1 false (.t 27)⟩,
    ⟨some 29, (some (19, true)), .bin .eql (.t 26) (.t 28)⟩,
    ⟨some 30, none, .pick (.t 24) (.t 29) (.c (.d (.b false)))⟩,
    ⟨some 31, none, .mov (.t 30)⟩,
    ⟨some 32, (some (26, true)), .faddr 4 (.t 2)⟩,
    ⟨some 33, (some (26, true)), .load 1 false (.t 32)⟩,
    ⟨some 34, (some (26, true)), .faddr 4 (.t 3)⟩,
    ⟨some 35, (some (26, true)), .load 1 false (.t 34)⟩,
    ⟨some 36, (some (26, true)), .bin .eql (.t 33) (.t 35)⟩,
    ⟨some 37, none, .pick (.t 31) (.t 36) (.c (.d (.b false)))⟩,
    ⟨some 38, none, .mov (.t 37)⟩,
    ⟨some 39, (some (33, true)), .faddr 5 (.t 2)⟩,
    ⟨some 40, (some (33, true)), .load 1 false (.t 39)⟩,
    ⟨some 41, (some (33, true)), .faddr 5 (.t 3)⟩,
    ⟨some 42, (some (33, true)), .load 1 false (.t 41)⟩,
    ⟨some 43, (some (33, true)), .bin .eql (.t 40) (.t 42)⟩,
    ⟨some 44, none, .pick (.t 38) (.t 43) (.c (.d (.b false)))⟩,
    ⟨some 45, none, .mov (.t 44)⟩,
    ⟨some 46, (some (40, true)), .faddr 6 (.t 2)⟩,
    ⟨some 47, (some (40, true)), .load 1 false (.t 46)⟩,
    ⟨some 48, (some (40, true)), .faddr 6 (.t 3)⟩,
    ⟨some 49, (some (40, true)), .load 1 false (.t 48)⟩,
    ⟨some 50, (some (40, true)), .bin .eql (.t 47) (.t 49)⟩,
    ⟨some 51, none, .pick (.t 45) (.t 50) (.c (.d (.b false)))⟩,
    ⟨some 52, none, .mov (.t 51)⟩,
    ⟨some 53, (some (47, true)), .faddr 7 (.t 2)⟩,
    ⟨some 54, (some (47, true)), .load 1 false (.t 53)⟩,
    ⟨some 55, (some (47, true)), .b2s (.t 54)⟩,
    ⟨some 56, (some (47, true)), .faddr 7 (.t 3)⟩,
    ⟨some 57, (some (47, true)), .load 1 false (.t 56)⟩,
    ⟨some 58, (some (47, true)), .b2s (.t 57)⟩,
    ⟨some 59, (some (47, true)), .bin .eql (.t 55) (.t 58)⟩,
    ⟨some 60, none, .pick (.t 52) (.t 59) (.c (.d (.b false)))⟩,
    ⟨some 4, none, .mov (.t 60)⟩] false [])
   (.ret)))⟩

def F352_spindleref9_Write_b0 : SCode :=
  .seq
        (.seq
        (.region [⟨some 25, none, .mov (.t 7)⟩,
         ⟨some 26, none, .mov (.t 4)⟩,
         ⟨some 27, none, .len false (.t 26)⟩,
         ⟨some 28, none, .bin .lss (.t 25) (.t 27)⟩] false [])
        (.keep [0, 4, 5, 6, 7, 28] (.cond (.t 28)
         (.skip)
         (.exit 0))))
        (.keep [0, 4, 5, 6, 7] (.seq
        (.block 1 (.seq
         (.region [⟨some 32, none, .mov (.t 5)⟩,
          ⟨some 33, none, .mov (.t 4)⟩,
          ⟨some 34, none, .mov (.t 7)⟩,
          ⟨some 35, none, .iaddr 8 (.t 33) (.t 34)⟩,
          ⟨some 36, none, .faddr 0 (.t 35)⟩,
          ⟨some 37, none, .load 1 false (.t 36)⟩,
          ⟨some 38, none, .call 356 [.t 32, .t 37]⟩,
          ⟨some 31, none, .mov (.t 38)⟩,
          ⟨some 39, none, .extract 0 (.t 31)⟩,
          ⟨some 40, none, .extract 1 (.t 31)⟩,
          ⟨some 8, none, .mov (.t 39)⟩,
          ⟨some 9, none, .mov (.t 40)⟩] false [])
         (.keep [0, 4, 6, 7, 8, 9] (.seq
          (.region [⟨some 41, none, .mov (.t 9)⟩,
           ⟨some 5, none, .mov (.t 41)⟩] false [])
          (.keep [0, 4, 5, 6, 7, 8] (.region [⟨some 42, none, .mov (.t 6)⟩,
           ⟨some 43, none, .mov (.t 8)⟩,
           ⟨some 44, none, .lits 1 [.i .i64 0] [(0, 1, .t 43)]⟩,
           ⟨some 45, none, .app 1 8 (.t 42) (.t 44)⟩,
           ⟨some 6, none, .mov (.t 45)⟩] false []))))))
        (.keep [0, 4, 5, 6, 7] (.region [⟨some 29, none, .mov (.t 7)⟩,
         ⟨some 30, none, .bin .add (.t 29) (.c (.d (.i .i64 1)))⟩,
         ⟨some 7, none, .mov (.t 30)⟩] false []))))
def F352_spindleref9_Write_b1 : SCode :=
  .seq
          (.seq
          (.region [⟨some 55, none, .mov (.t 12)⟩,
           ⟨some 56, none, .mov (.t 4)⟩,
           ⟨some 57, none, .len false (.t 56)⟩,
           ⟨some 58, none, .bin .lss (.t 55) (.t 57)⟩] false [])
          (.keep [0, 4, 6, 10, 11, 12, 58] (.cond (.t 58)
           (.skip)
           (.exit 2))))
          (.keep [0, 4, 6, 10, 11, 12] (.seq
          (.block 3 (.seq
           (.region [⟨some 61, none, .mov (.t 10)⟩,
            ⟨some 62, none, .call 358 [.t 61]⟩,
            ⟨some 10, none, .mov (.t 62)⟩] false [])
           (.keep [0, 4, 6, 10, 11, 12] (.seq
            (.region [⟨some 63, none, .mov (.t 11)⟩,
             ⟨some 64, none, .mov (.t 6)⟩,
             ⟨some 65, none, .mov (.t 12)⟩,
             ⟨some 66, none, .iaddr 1 (.t 64) (.t 65)⟩,
             ⟨some 67, none, .load 1 false (.t 66)⟩,
             ⟨some 68, none, .mov (.t 4)⟩,
             ⟨some 69, none, .mov (.t 12)⟩,
             ⟨some 70, none, .iaddr 8 (.t 68) (.t 69)⟩,
             ⟨some 71, none, .load 8 true (.t 70)⟩,
             ⟨some 72, none, .mov (.t 10)⟩,
             ⟨some 73, none, .len false (.t 72)⟩,
             ⟨some 74, none, .call 359 [.t 63, .t 67, .t 71, .t 73]⟩,
             ⟨some 11, none, .mov (.t 74)⟩] true [0, 0, 0, 6, 14, 0, 0, 96, 224, 0, 512, 2047, 4095])
            (.keep [0, 4, 6, 10, 11, 12] (.region [⟨some 75, none, .mov (.t 10)⟩,
             ⟨some 76, none, .mov (.t 4)⟩,
             ⟨some 77, none, .mov (.t 12)⟩,
             ⟨some 78, none, .iaddr 8 (.t 76) (.t 77)⟩,
             ⟨some 79, none, .faddr 7 (.t 78)⟩,
             ⟨some 80, none, .load 1 false (.t 79)⟩,
             ⟨some 81, none, .appR 1 1 [.i .u8 0] (.t 75) (.t 80)⟩,
             ⟨some 10, none, .mov (.t 81)⟩] false []))))))
          (.keep [0, 4, 6, 10, 11, 12] (.region [⟨some 59, none, .mov (.t 12)⟩,
           ⟨some 60, none, .bin .add (.t 59) (.c (.d (.i .i64 1)))⟩,
           ⟨some 12, none, .mov (.t 60)⟩] false []))))
def F352_spindleref9_Write_b2 : SCode :=
  .seq
           (.seq
            (.region [⟨some 89, none, .mov (.t 14)⟩,
             ⟨some 90, none, .bin .lss (.t 89) (.c (.d (.i .i64 64)))⟩] false [])
            (.keep [10, 11, 13, 14, 90] (.cond (.t 90)
            (.skip)
            (.exit 4))))
           (.keep [10, 11, 13, 14] (.seq
            (.block 5 (.region [⟨some 93, none, .mov (.t 10)⟩,
             ⟨some 94, none, .mov (.t 14)⟩,
             ⟨some 95, none, .mov (.t 13)⟩,
             ⟨some 96, none, .mov (.t 14)⟩,
             ⟨some 97, none, .iaddr 1 (.t 95) (.t 96)⟩,
             ⟨some 98, none, .load 1 false (.t 97)⟩,
             ⟨some 99, none, .iaddr 1 (.t 93) (.t 94)⟩,
             ⟨none, none, .store 1 (.t 99) (.t 98)⟩] false []))
            (.keep [10, 11, 13, 14] (.region [⟨some 91, none, .mov (.t 14)⟩,
             ⟨some 92, none, .bin .add (.t 91) (.c (.d (.i .i64 1)))⟩,
             ⟨some 14, none, .mov (.t 92)⟩] false []))))
/-- spindle/spindleref9.Write -/
def F352_spindleref9_Write : SFn := ⟨1, true, true, [.tmp 2, .tmp 3],
  .seq
   (.region [⟨some 2, none, .mov (.c (.d (.sl 0 false [])))⟩,
    ⟨some 3, none, .mov (.c (.d (.i .i64 0)))⟩] false [])
   (.keep [0] (.seq
   (.seq
    (.region [⟨some 15, none, .mov (.t 0)⟩,
     ⟨some 16, none, .call 355 [.t 15]⟩,
     ⟨some 17, none, .un .not (.t 16)⟩] false [])
    (.keep [0, 17] (.cond (.t 17)
    (.keep [] (.seq
     (.region [⟨some 2, none, .mov (.c (.d (.sl 0 false [])))⟩,
      ⟨some 3, none, .mov (.c (.d (.i .i64 92)))⟩] false [])
     (.ret)))
    (.skip))))
   (.keep [0] (.seq
    (.region [⟨some 18, none, .litsR 0 [.s [], .i .i64 0, .i .i64 0, .i .i64 0, .i .i64 0, .i .i64 0, .i .i64 0, .sl 0 false []] []⟩,
     ⟨some 19, none, .mov (.t 0)⟩,
     ⟨some 20, none, .appR 8 88 [.s [], .i .i64 0, .i .i64 0, .i .i64 0, .i .i64 0, .i .i64 0, .i .i64 0, .sl 0 false []] (.t 18) (.t 19)⟩,
     ⟨some 4, none, .mov (.t 20)⟩] false [])
    (.keep [0, 4] (.seq
    (.region [⟨some 21, none, .mov (.t 4)⟩,
     ⟨some 22, none, .build [.s [], .i .i64 0, .i .i64 0, .i .i64 0, .i .i64 0, .i .i64 0, .i .i64 0, .sl 0 false []] [(0, 1, .c (.d (.s [46, 115, 104, 115, 116, 114, 116, 97, 98]))), (1, 1, .c (.d (.i .i64 3))), (5, 1, .c (.d (.i .i64 1)))]⟩,
     ⟨some 23, none, .lits 1 [.s [], .i .i64 0, .i .i64 0, .i .i64 0, .i .i64 0, .i .i64 0, .i .i64 0, .sl 0 false []] [(0, 8, .t 22)]⟩,
     ⟨some 24, none, .appR 8 88 [.s [], .i .i64 0, .i .i64 0, .i .i64 0, .i .i64 0, .i .i64 0, .i .i64 0, .sl 0 false []] (.t 21) (.t 23)⟩,
     ⟨some 4, none, .mov (.t 24)⟩] false [])
    (.keep [0, 4] (.seq
     (.region [⟨some 5, none, .tok 1 (.c (.d (.sl 0 false [])))⟩] false [])
     (.keep [0, 4, 5] (.seq
     (.region [⟨some 6, none, .tok 1 (.c (.d (.sl 0 false [])))⟩] false [])
     (.keep [0, 4, 5, 6] (.seq
      (.seq
      (.region [⟨some 7, none, .mov (.c (.d (.i .i64 0)))⟩] false [])
      (.keep [0, 4, 5, 6, 7] (.block 0 (.loop [0, 4, 5, 6, 7] false F352_spindleref9_Write_b0))))
      (.keep [0, 4, 5, 6] (.seq
      (.region [⟨some 46, none, .mov (.t 4)⟩,
       ⟨some 47, none, .mov (.t 0)⟩,
       ⟨some 48, none, .len false (.t 47)⟩,
       ⟨some 49, none, .mov (.t 5)⟩,
       ⟨some 50, none, .call 357 [.t 49]⟩,
       ⟨some 51, none, .iaddr 8 (.t 46) (.t 48)⟩,
       ⟨some 52, none, .faddr 7 (.t 51)⟩,
       ⟨none, none, .store 1 (.t 52) (.t 50)⟩] false [])
      (.keep [0, 4, 6] (.seq
       (.region [⟨some 53, none, .mkR 1 [.i .u8 0] (.c (.d (.i .i64 64))) (.c (.d (.i .i64 64)))⟩,
        ⟨some 10, none, .mov (.t 53)⟩] false [])
       (.keep [0, 4, 6, 10] (.seq
       (.region [⟨some 54, none, .mkO 1 1 [.i .u8 0] (.c (.d (.i .i64 64))) (.c (.d (.i .i64 64)))⟩,
        ⟨some 11, none, .mov (.t 54)⟩] false [])
       (.keep [0, 4, 6, 10, 11] (.seq
        (.seq
        (.region [⟨some 12, none, .mov (.c (.d (.i .i64 0)))⟩] false [])
        (.keep [0, 4, 6, 10, 11, 12] (.block 2 (.loop [0, 4, 6, 10, 11, 12] false F352_spindleref9_Write_b1))))
        (.keep [0, 10, 11] (.seq
        (.region [⟨some 82, none, .mov (.t 10)⟩,
         ⟨some 83, none, .call 358 [.t 82]⟩,
         ⟨some 10, none, .mov (.t 83)⟩] false [])
        (.keep [0, 10, 11] (.seq
         (.region [⟨some 84, none, .mov (.t 0)⟩,
          ⟨some 85, none, .len false (.t 84)⟩,
          ⟨some 86, none, .mov (.t 10)⟩,
          ⟨some 87, none, .len false (.t 86)⟩,
          ⟨some 88, none, .call 360 [.t 85, .t 87]⟩,
          ⟨some 13, none, .mov (.t 88)⟩] false [])
         (.keep [10, 11, 13] (.seq
         (.seq
          (.region [⟨some 14, none, .mov (.c (.d (.i .i64 0)))⟩] false [])
          (.keep [10, 11, 13, 14] (.block 4 (.loop [10, 11, 13, 14] false F352_spindleref9_Write_b2))))
         (.keep [10, 11] (.seq
          (.region [⟨some 100, none, .mov (.t 10)⟩,
           ⟨some 101, none, .mov (.t 11)⟩,
           ⟨some 102, none, .appR 1 1 [.i .u8 0] (.t 100) (.t 101)⟩,
           ⟨some 2, none, .mov (.t 102)⟩,
           ⟨some 3, none, .mov (.c (.d (.i .i64 0)))⟩] false [])
          (.ret)))))))))))))))))))))))))))))⟩

def F355_spindleref9_all_b0 : SCode :=
  .seq
      (.seq
      (.region [⟨some 7, none, .mov (.t 3)⟩,
       ⟨some 8, none, .mov (.t 0)⟩,
       ⟨some 9, none, .len false (.t 8)⟩,
       ⟨some 10, none, .bin .lss (.t 7) (.t 9)⟩] false [])
      (.keep [0, 3, 10] (.cond (.t 10)
       (.skip)
       (.exit 0))))
      (.keep [0, 3] (.seq
      (.block 1 (.seq
       (.region [⟨some 13, none, .mov (.t 0)⟩,
        ⟨some 14, none, .mov (.t 3)⟩,
        ⟨some 15, none, .iaddr 8 (.t 13) (.t 14)⟩,
        ⟨some 16, none, .load 8 true (.t 15)⟩,
        ⟨some 17, none, .call 361 [.t 16]⟩,
        ⟨some 18, none, .un .not (.t 17)⟩] false [])
       (.keep [0, 3, 18] (.cond (.t 18)
        (.keep [] (.seq
        (.region [⟨some 2, none, .mov (.c (.d (.b false)))⟩] false [])
        (.ret)))
        (.skip)))))
      (.keep [0, 3] (.region [⟨some 11, none, .mov (.t 3)⟩,
       ⟨some 12, none, .bin .add (.t 11) (.c (.d (.i .i64 1)))⟩,
       ⟨some 3, none, .mov (.t 12)⟩] false []))))
/-- spindle/spindleref9.all -/
def F355_spindleref9_all : SFn := ⟨1, true, true, [.tmp 2],
  .seq
   (.region [⟨some 2, none, .mov (.c (.d (.b false)))⟩] false [])
   (.keep [0] (.seq
   (.seq
    (.region [⟨some 4, none, .mov (.t 0)⟩,
     ⟨some 5, none, .len false (.t 4)⟩,
     ⟨some 6, none, .bin .gtr (.t 5) (.c (.d (.i .i64 16)))⟩] false [])
    (.keep [0, 6] (.cond (.t 6)
    (.keep [] (.seq
     (.region [⟨some 2, none, .mov (.c (.d (.b false)))⟩] false [])
     (.ret)))
    (.skip))))
   (.keep [0] (.seq
    (.seq
    (.region [⟨some 3, none, .mov (.c (.d (.i .i64 0)))⟩] false [])
    (.keep [0, 3] (.block 0 (.loop [0, 3] false F355_spindleref9_all_b0))))
    (.keep [] (.seq
    (.region [⟨some 2, none, .mov (.c (.d (.b true)))⟩] false [])
    (.ret)))))))⟩

def F356_spindleref9_place_b0 : SCode :=
  .seq
      (.seq
      (.region [⟨some 8, none, .mov (.t 7)⟩,
       ⟨some 9, none, .mov (.t 0)⟩,
       ⟨some 10, none, .len false (.t 9)⟩,
       ⟨some 11, none, .bin .lss (.t 8) (.t 10)⟩] false [])
      (.keep [0, 1, 6, 7, 11] (.cond (.t 11)
       (.skip)
       (.exit 0))))
      (.keep [0, 1, 6, 7] (.seq
      (.block 1 (.seq
       (.seq
        (.region [⟨some 14, none, .mov (.t 0)⟩,
         ⟨some 15, none, .mov (.t 7)⟩,
         ⟨some 16, none, .iaddr 1 (.t 14) (.t 15)⟩,
         ⟨some 17, none, .load 1 false (.t 16)⟩,
         ⟨some 18, none, .mov (.t 1)⟩,
         ⟨some 19, none, .bin .eql (.t 17) (.t 18)⟩] false [])
        (.keep [0, 1, 6, 7, 19] (.cond (.t 19)
        (.keep [0, 6] (.seq
         (.region [⟨some 20, none, .mov (.t 6)⟩,
          ⟨some 21, none, .mov (.t 0)⟩,
          ⟨some 4, none, .mov (.t 20)⟩,
          ⟨some 5, none, .mov (.t 21)⟩] false [])
         (.ret)))
        (.skip))))
       (.keep [0, 1, 6, 7] (.region [⟨some 22, none, .mov (.t 6)⟩,
        ⟨some 23, none, .mov (.t 0)⟩,
        ⟨some 24, none, .mov (.t 7)⟩,
        ⟨some 25, none, .iaddr 1 (.t 23) (.t 24)⟩,
        ⟨some 26, none, .load 1 false (.t 25)⟩,
        ⟨some 27, none, .len true (.t 26)⟩,
        ⟨some 28, none, .bin .add (.t 22) (.t 27)⟩,
        ⟨some 29, none, .bin .add (.t 28) (.c (.d (.i .i64 1)))⟩,
        ⟨some 6, none, .mov (.t 29)⟩] false []))))
      (.keep [0, 1, 6, 7] (.region [⟨some 12, none, .mov (.t 7)⟩,
       ⟨some 13, none, .bin .add (.t 12) (.c (.d (.i .i64 1)))⟩,
       ⟨some 7, none, .mov (.t 13)⟩] false []))))
/-- spindle/spindleref9.place -/
def F356_spindleref9_place : SFn := ⟨2, false, false, [.tmp 4, .tmp 5],
  .seq
   (.region [⟨some 4, none, .mov (.c (.d (.i .i64 0)))⟩,
    ⟨some 5, none, .mov (.c (.d (.sl 0 false [])))⟩] false [])
   (.keep [0, 1] (.seq
   (.region [⟨some 6, none, .mov (.c (.d (.i .i64 1)))⟩] false [])
   (.keep [0, 1, 6] (.seq
    (.seq
    (.region [⟨some 7, none, .mov (.c (.d (.i .i64 0)))⟩] false [])
    (.keep [0, 1, 6, 7] (.block 0 (.loop [0, 1, 6, 7] false F356_spindleref9_place_b0))))
    (.keep [0, 1, 6] (.seq
    (.region [⟨some 30, none, .mov (.t 6)⟩,
     ⟨some 31, none, .mov (.t 0)⟩,
     ⟨some 32, none, .mov (.t 1)⟩,
     ⟨some 33, none, .lits 1 [.s []] [(0, 1, .t 32)]⟩,
     ⟨some 34, none, .app 1 16 (.t 31) (.t 33)⟩,
     ⟨some 4, none, .mov (.t 30)⟩,
     ⟨some 5, none, .mov (.t 34)⟩] false [])
    (.ret)))))))⟩

def F357_spindleref9_table_b0 : SCode :=
  .seq
      (.seq
      (.region [⟨some 6, none, .mov (.t 4)⟩,
       ⟨some 7, none, .mov (.t 0)⟩,
       ⟨some 8, none, .len false (.t 7)⟩,
       ⟨some 9, none, .bin .lss (.t 6) (.t 8)⟩] false [])
      (.keep [0, 3, 4, 9] (.cond (.t 9)
       (.skip)
       (.exit 0))))
      (.keep [0, 3, 4] (.seq
      (.block 1 (.seq
       (.region [⟨some 12, none, .mov (.t 3)⟩,
        ⟨some 13, none, .mov (.t 0)⟩,
        ⟨some 14, none, .mov (.t 4)⟩,
        ⟨some 15, none, .iaddr 1 (.t 13) (.t 14)⟩,
        ⟨some 16, none, .load 1 false (.t 15)⟩,
        ⟨some 17, none, .app 1 1 (.t 12) (.t 16)⟩,
        ⟨some 3, none, .mov (.t 17)⟩] false [])
       (.keep [0, 3, 4] (.region [⟨some 18, none, .mov (.t 3)⟩,
        ⟨some 19, none, .lits 1 [.i .u8 0] [(0, 1, .c (.d (.i .u8 0)))]⟩,
        ⟨some 20, none, .app 1 1 (.t 18) (.t 19)⟩,
        ⟨some 3, none, .mov (.t 20)⟩] false []))))
      (.keep [0, 3, 4] (.region [⟨some 10, none, .mov (.t 4)⟩,
       ⟨some 11, none, .bin .add (.t 10) (.c (.d (.i .i64 1)))⟩,
       ⟨some 4, none, .mov (.t 11)⟩] false []))))
/-- spindle/spindleref9.table -/
def F357_spindleref9_table : SFn := ⟨1, true, true, [.tmp 2],
  .seq
   (.region [⟨some 2, none, .mov (.c (.d (.sl 0 false [])))⟩] false [])
   (.keep [0] (.seq
   (.region [⟨some 5, none, .litsO 1 [.i .u8 0] [(0, 1, .c (.d (.i .u8 0)))]⟩,
    ⟨some 3, none, .mov (.t 5)⟩] false [])
   (.keep [0, 3] (.seq
    (.seq
    (.region [⟨some 4, none, .mov (.c (.d (.i .i64 0)))⟩] false [])
    (.keep [0, 3, 4] (.block 0 (.loop [0, 3, 4] false F357_spindleref9_table_b0))))
    (.keep [3] (.seq
    (.region [⟨some 21, none, .mov (.t 3)⟩,
     ⟨some 2, none, .mov (.t 21)⟩] false [])
    (.ret)))))))⟩

def F358_spindleref9_padded_b0 : SCode :=
  .seq
     (.seq
     (.region [⟨some 3, none, .mov (.t 0)⟩,
      ⟨some 4, none, .len false (.t 3)⟩,
      ⟨some 5, none, .bin .rem (.t 4) (.c (.d (.i .i64 8)))⟩,
      ⟨some 6, none, .bin .neq (.t 5) (.c (.d (.i .i64 0)))⟩] false [])
     (.keep [0, 6] (.cond (.t 6)
      (.skip)
      (.exit 0))))
     (.keep [0] (.block 1 (.region [⟨some 7, none, .mov (.t 0)⟩,
      ⟨some 8, none, .lits 1 [.i .u8 0] [(0, 1, .c (.d (.i .u8 0)))]⟩,
      ⟨some 9, none, .appR 1 1 [.i .u8 0] (.t 7) (.t 8)⟩,
      ⟨some 0, none, .mov (.t 9)⟩] false [])))
/-- spindle/spindleref9.padded -/
def F358_spindleref9_padded : SFn := ⟨1, false, false, [.tmp 2],
  .seq
   (.region [⟨some 2, none, .mov (.c (.d (.sl 0 false [])))⟩] false [])
   (.keep [0] (.seq
   (.block 0 (.loop [0] false F358_spindleref9_padded_b0))
   (.keep [0] (.seq
    (.region [⟨some 10, none, .mov (.t 0)⟩,
     ⟨some 2, none, .mov (.t 10)⟩] false [])
    (.ret)))))⟩

/-- spindle/spindleref9.entry -/
def F359_spindleref9_entry : SFn := ⟨4, false, false, [.tmp 8],
  .seq
   (.region [⟨some 6, none, .box (.t 2)⟩,
    ⟨some 8, none, .mov (.c (.d (.sl 0 false [])))⟩] false [])
   (.keep [0, 1, 3, 6] (.seq
   (.region [⟨some 9, none, .mov (.t 0)⟩,
    ⟨some 10, none, .mov (.t 1)⟩,
    ⟨some 11, none, .call 362 [.t 9, .t 10, .c (.d (.i .i64 4))]⟩,
    ⟨some 0, none, .mov (.t 11)⟩] false [])
   (.keep [0, 3, 6] (.seq
    (.region [⟨some 12, none, .mov (.t 0)⟩,
     ⟨some 13, none, .faddr 1 (.t 6)⟩,
     ⟨some 14, none, .load 1 false (.t 13)⟩,
     ⟨some 15, none, .call 362 [.t 12, .t 14, .c (.d (.i .i64 4))]⟩,
     ⟨some 0, none, .mov (.t 15)⟩] false [])
    (.keep [0, 3, 6] (.seq
    (.region [⟨some 16, none, .mov (.t 0)⟩,
     ⟨some 17, none, .faddr 2 (.t 6)⟩,
     ⟨some 18, none, .load 1 false (.t 17)⟩,
     ⟨some 19, none, .call 362 [.t 16, .t 18, .c (.d (.i .i64 8))]⟩,
     ⟨some 0, none, .mov (.t 19)⟩] false [])
    (.keep [0, 3, 6] (.seq
     (.region [⟨some 20, none, .mov (.t 0)⟩,
      ⟨some 21, none, .call 362 [.t 20, .c (.d (.i .i64 0)), .c (.d (.i .i64 8))]⟩,
      ⟨some 0, none, .mov (.t 21)⟩] false [])
     (.keep [0, 3, 6] (.seq
     (.region [⟨some 22, none, .mov (.t 0)⟩,
      ⟨some 23, none, .mov (.t 3)⟩,
      ⟨some 24, none, .call 362 [.t 22, .t 23, .c (.d (.i .i64 8))]⟩,
      ⟨some 0, none, .mov (.t 24)⟩] false [])
     (.keep [0, 6] (.seq
      (.region [⟨some 25, none, .mov (.t 0)⟩,
       ⟨some 26, none, .faddr 7 (.t 6)⟩,
       ⟨some 27, none, .load 1 false (.t 26)⟩,
       ⟨some 28, none, .len false (.t 27)⟩,
       ⟨some 29, none, .call 362 [.t 25, .t 28, .c (.d (.i .i64 8))]⟩,
       ⟨some 0, none, .mov (.t 29)⟩] false [])
      (.keep [0, 6] (.seq
      (.region [⟨some 30, none, .mov (.t 0)⟩,
       ⟨some 31, none, .faddr 3 (.t 6)⟩,
       ⟨some 32, none, .load 1 false (.t 31)⟩,
       ⟨some 33, none, .call 362 [.t 30, .t 32, .c (.d (.i .i64 4))]⟩,
       ⟨some 0, none, .mov (.t 33)⟩] false [])
      (.keep [0, 6] (.seq
       (.region [⟨some 34, none, .mov (.t 0)⟩,
        ⟨some 35, none, .faddr 4 (.t 6)⟩,
        ⟨some 36, none, .load 1 false (.t 35)⟩,
        ⟨some 37, none, .call 362 [.t 34, .t 36, .c (.d (.i .i64 4))]⟩,
        ⟨some 0, none, .mov (.t 37)⟩] false [])
       (.keep [0, 6] (.seq
       (.region [⟨some 38, none, .mov (.t 0)⟩,
        ⟨some 39, none, .faddr 5 (.t 6)⟩,
        ⟨some 40, none, .load 1 false (.t 39)⟩,
        ⟨some 41, none, .call 362 [.t 38, .t 40, .c (.d (.i .i64 8))]⟩,
        ⟨some 0, none, .mov (.t 41)⟩] false [])
       (.keep [0, 6] (.seq
        (.region [⟨some 42, none, .mov (.t 0)⟩,
         ⟨some 43, none, .faddr 6 (.t 6)⟩,
         ⟨some 44, none, .load 1 false (.t 43)⟩,
         ⟨some 45, none, .call 362 [.t 42, .t 44, .c (.d (.i .i64 8))]⟩,
         ⟨some 8, none, .mov (.t 45)⟩] false [])
        (.ret)))))))))))))))))))))⟩

/-- spindle/spindleref9.head -/
def F360_spindleref9_head : SFn := ⟨2, true, true, [.tmp 4],
  .seq
   (.region [⟨some 4, none, .mov (.c (.d (.sl 0 false [])))⟩] false [])
   (.keep [0, 1] (.seq
   (.region [⟨some 6, none, .litsO 16 [.i .u8 0] [(0, 1, .c (.d (.i .u8 127))), (1, 1, .c (.d (.i .u8 69))), (2, 1, .c (.d (.i .u8 76))), (3, 1, .c (.d (.i .u8 70))), (4, 1, .c (.d (.i .u8 2))), (5, 1, .c (.d (.i .u8 1))), (6, 1, .c (.d (.i .u8 1))), (7, 1, .c (.d (.i .u8 0))), (8, 1, .c (.d (.i .u8 0))), (9, 1, .c (.d (.i .u8 0))), (10, 1, .c (.d (.i .u8 0))), (11, 1, .c (.d (.i .u8 0))), (12, 1, .c (.d (.i .u8 0))), (13, 1, .c (.d (.i .u8 0))), (14, 1, .c (.d (.i .u8 0))), (15, 1, .c (.d (.i .u8 0)))]⟩,
    ⟨some 5, none, .mov (.t 6)⟩] false [])
   (.keep [0, 1, 5] (.seq
    (.region [⟨some 7, none, .mov (.t 5)⟩,
     ⟨some 8, none, .call 362 [.t 7, .c (.d (.i .i64 1)), .c (.d (.i .i64 2))]⟩,
     ⟨some 5, none, .mov (.t 8)⟩] false [])
    (.keep [0, 1, 5] (.seq
    (.region [⟨some 9, none, .mov (.t 5)⟩,
     ⟨some 10, none, .call 362 [.t 9, .c (.d (.i .i64 247)), .c (.d (.i .i64 2))]⟩,
     ⟨some 5, none, .mov (.t 10)⟩] false [])
    (.keep [0, 1, 5] (.seq
     (.region [⟨some 11, none, .mov (.t 5)⟩,
      ⟨some 12, none, .call 362 [.t 11, .c (.d (.i .i64 1)), .c (.d (.i .i64 4))]⟩,
      ⟨some 5, none, .mov (.t 12)⟩] false [])
     (.keep [0, 1, 5] (.seq
     (.region [⟨some 13, none, .mov (.t 5)⟩,
      ⟨some 14, none, .call 362 [.t 13, .c (.d (.i .i64 0)), .c (.d (.i .i64 8))]⟩,
      ⟨some 5, none, .mov (.t 14)⟩] false [])
     (.keep [0, 1, 5] (.seq
      (.region [⟨some 15, none, .mov (.t 5)⟩,
       ⟨some 16, none, .call 362 [.t 15, .c (.d (.i .i64 0)), .c (.d (.i .i64 8))]⟩,
       ⟨some 5, none, .mov (.t 16)⟩] false [])
      (.keep [0, 1, 5] (.seq
      (.region [⟨some 17, none, .mov (.t 5)⟩,
       ⟨some 18, none, .mov (.t 1)⟩,
       ⟨some 19, none, .call 362 [.t 17, .t 18, .c (.d (.i .i64 8))]⟩,
       ⟨some 5, none, .mov (.t 19)⟩] false [])
      (.keep [0, 5] (.seq
       (.region [⟨some 20, none, .mov (.t 5)⟩,
        ⟨some 21, none, .call 362 [.t 20, .c (.d (.i .i64 0)), .c (.d (.i .i64 4))]⟩,
        ⟨some 5, none, .mov (.t 21)⟩] false [])
       (.keep [0, 5] (.seq
       (.region [⟨some 22, none, .mov (.t 5)⟩,
        ⟨some 23, none, .call 362 [.t 22, .c (.d (.i .i64 64)), .c (.d (.i .i64 2))]⟩,
        ⟨some 5, none, .mov (.t 23)⟩] false [])
       (.keep [0, 5] (.seq
        (.region [⟨some 24, none, .mov (.t 5)⟩,
         ⟨some 25, none, .call 362 [.t 24, .c (.d (.i .i64 0)), .c (.d (.i .i64 4))]⟩,
         ⟨some 5, none, .mov (.t 25)⟩] false [])
        (.keep [0, 5] (.seq
        (.region [⟨some 26, none, .mov (.t 5)⟩,
         ⟨some 27, none, .call 362 [.t 26, .c (.d (.i .i64 64)), .c (.d (.i .i64 2))]⟩,
         ⟨some 5, none, .mov (.t 27)⟩] false [])
        (.keep [0, 5] (.seq
         (.region [⟨some 28, none, .mov (.t 5)⟩,
          ⟨some 29, none, .mov (.t 0)⟩,
          ⟨some 30, none, .bin .add (.t 29) (.c (.d (.i .i64 2)))⟩,
          ⟨some 31, none, .call 362 [.t 28, .t 30, .c (.d (.i .i64 2))]⟩,
          ⟨some 5, none, .mov (.t 31)⟩] false [])
         (.keep [0, 5] (.seq
         (.region [⟨some 32, none, .mov (.t 5)⟩,
          ⟨some 33, none, .mov (.t 0)⟩,
          ⟨some 34, none, .bin .add (.t 33) (.c (.d (.i .i64 1)))⟩,
          ⟨some 35, none, .call 362 [.t 32, .t 34, .c (.d (.i .i64 2))]⟩,
          ⟨some 4, none, .mov (.t 35)⟩] false [])
         (.ret)))))))))))))))))))))))))))⟩

/-- spindle/spindleref9.May -/
def F361_spindleref9_May : SFn := ⟨1, true, true, [.tmp 2],
  .seq
   (.region [⟨some 1, none, .box (.t 0)⟩,
    ⟨some 2, none, .mov (.c (.d (.b false)))⟩] false [])
   (.keep [1] (.seq
   (.seq
    (.region [⟨some 3, none, .faddr 0 (.t 1)⟩,
     ⟨some 4, none, .load 1 false (.t 3)⟩,
     ⟨some 5, none, .call 171 [.t 4]⟩,
     ⟨some 6, none, .un .not (.t 5)⟩] false [])
    (.keep [1, 6] (.cond (.t 6)
    (.keep [] (.seq
     (.region [⟨some 2, none, .mov (.c (.d (.b false)))⟩] false [])
     (.ret)))
    (.skip))))
   (.keep [1] (.seq
    (.region [⟨some 7, none, .faddr 1 (.t 1)⟩,
     ⟨some 8, none, .load 1 false (.t 7)⟩,
     ⟨some 9, none, .bin .geq (.t 8) (.c (.d (.i .i64 0)))⟩,
     ⟨some 10, none, .mov (.t 9)⟩,
     ⟨some 11, (some (3, true)), .faddr 1 (.t 1)⟩,
     ⟨some 12, (some (3, true)), .load 1 false (.t 11)⟩,
     ⟨some 13, (some (3, true)), .bin .lss (.t 12) (.c (.d (.i .i64 4294967296)))⟩,
     ⟨some 14, none, .pick (.t 10) (.t 13) (.c (.d (.b false)))⟩,
     ⟨some 15, none, .mov (.t 14)⟩,
     ⟨some 16, (some (8, true)), .faddr 2 (.t 1)⟩,
     ⟨some 17, (some (8, true)), .load 1 false (.t 16)⟩,
     ⟨some 18, (some (8, true)), .bin .geq (.t 17) (.c (.d (.i .i64 0)))⟩,
     ⟨some 19, none, .pick (.t 15) (.t 18) (.c (.d (.b false)))⟩,
     ⟨some 20, none, .mov (.t 19)⟩,
     ⟨some 21, (some (13, true)), .faddr 5 (.t 1)⟩,
     ⟨some 22, (some (13, true)), .load 1 false (.t 21)⟩,
     ⟨some 23, (some (13, true)), .bin .geq (.t 22) (.c (.d (.i .i64 0)))⟩,
     ⟨some 24, none, .pick (.t 20) (.t 23) (.c (.d (.b false)))⟩,
     ⟨some 25, none, .mov (.t 24)⟩,
     ⟨some 26, (some (18, true)), .faddr 6 (.t 1)⟩,
     ⟨some 27, (some (18, true)), .load 1 false (.t 26)⟩,
     ⟨some 28, (some (18, true)), .bin .geq (.t 27) (.c (.d (.i .i64 0)))⟩,
     ⟨some 29, none, .pick (.t 25) (.t 28) (.c (.d (.b false)))⟩,
     ⟨some 30, none, .mov (.t 29)⟩,
     ⟨some 31, (some (23, true)), .faddr 3 (.t 1)⟩,
     ⟨some 32, (some (23, true)), .load 1 false (.t 31)⟩,
     ⟨some 33, (some (23, true)), .bin .geq (.t 32) (.c (.d (.i .i64 0)))⟩,
     ⟨some 34, none, .pick (.t 30) (.t 33) (.c (.d (.b false)))⟩,
     ⟨some 35, none, .mov (.t 34)⟩,
     ⟨some 36, (some (28, true)), .faddr 3 (.t 1)⟩,
     ⟨some 37, (some (28, true)), .load 1 false (.t 36)⟩,
     ⟨some 38, (some (28, true)), .bin .lss (.t 37) (.c (.d (.i .i64 4294967296)))⟩,
     ⟨some 39, none, .pick (.t 35) (.t 38) (.c (.d (.b false)))⟩,
     ⟨some 40, none, .mov (.t 39)⟩,
     ⟨some 41, (some (33, true)), .faddr 4 (.t 1)⟩,
     ⟨some 42, (some (33, true)), .load 1 false (.t 41)⟩,
     ⟨some 43, (some (33, true)), .bin .geq (.t 42) (.c (.d (.i .i64 0)))⟩,
     ⟨some 44, none, .pick (.t 40) (.t 43) (.c (.d (.b false)))⟩,
     ⟨some 45, none, .mov (.t 44)⟩,
     ⟨some 46, (some (38, true)), .faddr 4 (.t 1)⟩,
     ⟨some 47, (some (38, true)), .load 1 false (.t 46)⟩,
     ⟨some 48, (some (38, true)), .bin .lss (.t 47) (.c (.d (.i .i64 4294967296)))⟩,
     ⟨some 49, none, .pick (.t 45) (.t 48) (.c (.d (.b false)))⟩,
     ⟨some 2, none, .mov (.t 49)⟩] false [])
    (.ret)))))⟩

def F362_spindleref9_num_b0 : SCode :=
  .seq
     (.seq
      (.region [⟨some 8, none, .mov (.t 7)⟩,
       ⟨some 9, none, .mov (.t 2)⟩,
       ⟨some 10, none, .bin .lss (.t 8) (.t 9)⟩] false [])
      (.keep [0, 1, 2, 7, 10] (.cond (.t 10)
      (.skip)
      (.exit 0))))
     (.keep [0, 1, 2, 7] (.seq
      (.block 1 (.region [⟨some 13, none, .mov (.t 0)⟩,
       ⟨some 14, none, .mov (.t 1)⟩,
       ⟨some 15, none, .mov (.t 7)⟩,
       ⟨some 16, none, .bin .mul (.c (.d (.i .i64 8))) (.t 15)⟩,
       ⟨some 17, none, .bin .shr (.t 14) (.t 16)⟩,
       ⟨some 18, none, .conv .u8 (.t 17)⟩,
       ⟨some 19, none, .lits 1 [.i .u8 0] [(0, 1, .t 18)]⟩,
       ⟨some 20, none, .app 1 1 (.t 13) (.t 19)⟩,
       ⟨some 0, none, .mov (.t 20)⟩] false []))
      (.keep [0, 1, 2, 7] (.region [⟨some 11, none, .mov (.t 7)⟩,
       ⟨some 12, none, .bin .add (.t 11) (.c (.d (.i .i64 1)))⟩,
       ⟨some 7, none, .mov (.t 12)⟩] false []))))
/-- spindle/spindleref9.num -/
def F362_spindleref9_num : SFn := ⟨3, false, false, [.tmp 6],
  .seq
   (.region [⟨some 6, none, .mov (.c (.d (.sl 0 false [])))⟩] false [])
   (.keep [0, 1, 2] (.seq
   (.seq
    (.region [⟨some 7, none, .mov (.c (.d (.i .i64 0)))⟩] false [])
    (.keep [0, 1, 2, 7] (.block 0 (.loop [0, 1, 2, 7] false F362_spindleref9_num_b0))))
   (.keep [0] (.seq
    (.region [⟨some 21, none, .mov (.t 0)⟩,
     ⟨some 6, none, .mov (.t 21)⟩] false [])
    (.ret)))))⟩
end Go.Sh
