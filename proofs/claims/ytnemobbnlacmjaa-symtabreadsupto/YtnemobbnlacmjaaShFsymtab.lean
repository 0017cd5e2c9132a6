/- Shadow functions of symtab, written by tr.py. -/
import Derived.Test.YtnemobbnlacmjaaShBa
namespace Go.Sh
def F31_symtab_Write_b0 : SCode :=
  .seq
      (.region [⟨some 19, none, .bin .lss (.t 18) (.t 17)⟩] false [])
      (.keep [4, 5, 16, 17, 18, 19] (.seq
       (.cond (.t 19)
       (.skip)
       (.exit 0))
       (.keep [4, 5, 16, 17, 18] (.seq
       (.block 1 (.seq
        (.region [⟨some 20, none, .iaddr 6 (.t 16) (.t 18)⟩,
         ⟨some 21, none, .load 6 true (.t 20)⟩,
         ⟨some 7, none, .alloc [.i .i64 0, .i .i64 0, .i .i64 0, .i .i64 0, .i .i64 0, .i .i64 0]⟩,
         ⟨none, none, .store 6 (.t 7) (.t 21)⟩] false [])
        (.keep [4, 5, 7, 16, 17, 18] (.seq
         (.region [⟨some 8, none, .mov (.c (.d (.ni)))⟩] false [])
         (.keep [4, 5, 7, 8, 16, 17, 18] (.seq
         (.seq
          (.region [⟨some 22, none, .faddr 1 (.t 7)⟩,
           ⟨some 23, none, .load 1 false (.t 22)⟩,
           ⟨some 24, none, .bin .geq (.t 23) (.c (.d (.i .i64 0)))⟩,
           ⟨some 25, none, .mov (.t 24)⟩,
           ⟨some 26, (some (3, true)), .faddr 1 (.t 7)⟩,
           ⟨some 27, (some (3, true)), .load 1 false (.t 26)⟩,
           ⟨some 28, (some (3, true)), .bin .leq (.t 27) (.c (.d (.i .i64 1)))⟩,
           ⟨some 29, none, .pick (.t 25) (.t 28) (.c (.d (.b false)))⟩,
           ⟨some 30, none, .mov (.t 29)⟩,
           ⟨some 31, (some (8, true)), .faddr 2 (.t 7)⟩,
           ⟨some 32, (some (8, true)), .load 1 false (.t 31)⟩,
           ⟨some 33, (some (8, true)), .bin .geq (.t 32) (.c (.d (.i .i64 0)))⟩,
           ⟨some 34, none, .pick (.t 30) (.t 33) (.c (.d (.b false)))⟩,
           ⟨some 35, none, .mov (.t 34)⟩,
           ⟨some 36, (some (13, true)), .faddr 2 (.t 7)⟩,
           ⟨some 37, (some (13, true)), .load 1 false (.t 36)⟩,
           ⟨some 38, (some (13, true)), .bin .leq (.t 37) (.c (.d (.i .i64 2)))⟩,
           ⟨some 39, none, .pick (.t 35) (.t 38) (.c (.d (.b false)))⟩] false [])
          (.keep [4, 5, 7, 8, 16, 17, 18, 39] (.cond (.t 39)
          (.keep [4, 5, 7, 16, 17, 18] (.region [⟨some 40, none, .faddr 1 (.t 7)⟩,
           ⟨some 41, none, .load 1 false (.t 40)⟩,
           ⟨some 42, none, .bin .mul (.c (.d (.i .i64 16))) (.t 41)⟩,
           ⟨some 43, none, .faddr 2 (.t 7)⟩,
           ⟨some 44, none, .load 1 false (.t 43)⟩,
           ⟨some 45, none, .bin .add (.t 42) (.t 44)⟩,
           ⟨some 46, none, .call 44 [.t 45]⟩,
           ⟨some 8, none, .mov (.t 46)⟩] false []))
          (.skip))))
         (.keep [4, 5, 7, 8, 16, 17, 18] (.seq
          (.seq
          (.region [⟨some 47, none, .mov (.t 8)⟩,
           ⟨some 48, none, .eqv false [10] (.t 47) (.c (.d (.ni)))⟩,
           ⟨some 49, none, .mov (.t 48)⟩,
           ⟨some 50, (some (2, false)), .faddr 0 (.t 7)⟩,
           ⟨some 51, (some (2, false)), .load 1 false (.t 50)⟩,
           ⟨some 52, (some (2, false)), .bin .lss (.t 51) (.c (.d (.i .i64 0)))⟩,
           ⟨some 53, none, .pick (.t 49) (.c (.d (.b true))) (.t 52)⟩,
           ⟨some 54, none, .mov (.t 53)⟩,
           ⟨some 55, (some (7, false)), .faddr 0 (.t 7)⟩,
           ⟨some 56, (some (7, false)), .load 1 false (.t 55)⟩,
           ⟨some 57, (some (7, false)), .bin .gtr (.t 56) (.c (.d (.i .i64 4294967295)))⟩,
           ⟨some 58, none, .pick (.t 54) (.c (.d (.b true))) (.t 57)⟩,
           ⟨some 59, none, .mov (.t 58)⟩,
           ⟨some 60, (some (12, false)), .faddr 3 (.t 7)⟩,
           ⟨some 61, (some (12, false)), .load 1 false (.t 60)⟩,
           ⟨some 62, (some (12, false)), .mov (.t 8)⟩,
           ⟨some 63, (some (12, false)), .invoke [(0, 45), (1, 46), (2, 47)] (.t 62) []⟩,
           ⟨some 64, (some (12, false)), .bin .neq (.t 61) (.t 63)⟩,
           ⟨some 65, none, .pick (.t 59) (.c (.d (.b true))) (.t 64)⟩,
           ⟨some 66, none, .mov (.t 65)⟩,
           ⟨some 67, (some (19, false)), .mov (.t 8)⟩,
           ⟨some 68, (some (19, false)), .faddr 4 (.t 7)⟩,
           ⟨some 69, (some (19, false)), .load 1 false (.t 68)⟩,
           ⟨some 70, (some (19, false)), .invoke [(0, 48), (1, 49), (2, 50)] (.t 67) [.t 69]⟩,
           ⟨some 71, (some (19, false)), .un .not (.t 70)⟩,
           ⟨some 72, none, .pick (.t 66) (.c (.d (.b true))) (.t 71)⟩,
           ⟨some 73, none, .mov (.t 72)⟩,
           ⟨some 74, (some (26, false)), .mov (.t 8)⟩,
           ⟨some 75, (some (26, false)), .faddr 5 (.t 7)⟩,
           ⟨some 76, (some (26, false)), .load 1 false (.t 75)⟩,
           ⟨some 77, (some (26, false)), .invoke [(0, 51), (1, 52), (2, 53)] (.t 74) [.t 76]⟩,
           ⟨some 78, (some (26, false)), .un .not (.t 77)⟩,
           ⟨some 79, none, .pick (.t 73) (.c (.d (.b true))) (.t 78)⟩] true [0, 1, 3, 7, 15, 31, 63, 127, 255, 511, 1023, 2047, 4095, 8191, 16383, 8191, 40959, 131071, 262143, 524287, 1048575, 1048575, 3145727, 8388607, 16777215, 33554431, 67108863, 134217727, 134217727, 402653183, 1073741823, 2147483647, 4294967295])
          (.keep [4, 5, 7, 8, 16, 17, 18, 79] (.cond (.t 79)
           (.keep [] (.seq
           (.region [⟨some 2, none, .mov (.c (.d (.sl 0 false [])))⟩,
            ⟨some 3, none, .mov (.c (.d (.i .i64 100)))⟩] false [])
           (.ret)))
           (.skip))))
          (.keep [4, 5, 7, 8, 16, 17, 18] (.seq
          (.seq
           (.region [⟨some 80, none, .mov (.t 5)⟩,
            ⟨some 81, none, .mov (.t 8)⟩,
            ⟨some 82, none, .faddr 4 (.t 7)⟩,
            ⟨some 83, none, .load 1 false (.t 82)⟩,
            ⟨some 84, none, .call 54 [.t 80, .t 81, .t 83]⟩,
            ⟨some 85, none, .un .not (.t 84)⟩] false [])
           (.keep [4, 5, 7, 8, 16, 17, 18, 85] (.cond (.t 85)
           (.keep [] (.seq
            (.region [⟨some 2, none, .mov (.c (.d (.sl 0 false [])))⟩,
             ⟨some 3, none, .mov (.c (.d (.i .i64 101)))⟩] false [])
            (.ret)))
           (.skip))))
          (.keep [4, 5, 7, 8, 16, 17, 18] (.seq
           (.region [⟨some 86, none, .mov (.t 4)⟩,
            ⟨some 87, none, .faddr 0 (.t 7)⟩,
            ⟨some 88, none, .load 1 false (.t 87)⟩,
            ⟨some 89, none, .call 55 [.t 86, .t 88, .c (.d (.i .i64 4))]⟩,
            ⟨some 4, none, .mov (.t 89)⟩] false [])
           (.keep [4, 5, 7, 8, 16, 17, 18] (.seq
           (.region [⟨some 90, none, .mov (.t 4)⟩,
            ⟨some 91, none, .mov (.t 8)⟩,
            ⟨some 92, none, .invoke [(0, 56), (1, 57), (2, 58)] (.t 91) []⟩,
            ⟨some 93, none, .call 55 [.t 90, .t 92, .c (.d (.i .i64 1))]⟩,
            ⟨some 4, none, .mov (.t 93)⟩] false [])
           (.keep [4, 5, 7, 16, 17, 18] (.seq
            (.region [⟨some 94, none, .mov (.t 4)⟩,
             ⟨some 95, none, .call 55 [.t 94, .c (.d (.i .i64 0)), .c (.d (.i .i64 1))]⟩,
             ⟨some 4, none, .mov (.t 95)⟩] false [])
            (.keep [4, 5, 7, 16, 17, 18] (.seq
            (.region [⟨some 96, none, .mov (.t 4)⟩,
             ⟨some 97, none, .faddr 3 (.t 7)⟩,
             ⟨some 98, none, .load 1 false (.t 97)⟩,
             ⟨some 99, none, .call 55 [.t 96, .t 98, .c (.d (.i .i64 2))]⟩,
             ⟨some 4, none, .mov (.t 99)⟩] false [])
            (.keep [4, 5, 7, 16, 17, 18] (.seq
             (.region [⟨some 100, none, .mov (.t 4)⟩,
              ⟨some 101, none, .faddr 4 (.t 7)⟩,
              ⟨some 102, none, .load 1 false (.t 101)⟩,
              ⟨some 103, none, .call 55 [.t 100, .t 102, .c (.d (.i .i64 8))]⟩,
              ⟨some 4, none, .mov (.t 103)⟩] false [])
             (.keep [4, 5, 7, 16, 17, 18] (.region [⟨some 104, none, .mov (.t 4)⟩,
              ⟨some 105, none, .faddr 5 (.t 7)⟩,
              ⟨some 106, none, .load 1 false (.t 105)⟩,
              ⟨some 107, none, .call 55 [.t 104, .t 106, .c (.d (.i .i64 8))]⟩,
              ⟨some 4, none, .mov (.t 107)⟩] false []))))))))))))))))))))))
       (.keep [4, 5, 16, 17, 18] (.region [⟨some 108, none, .bin .add (.t 18) (.c (.d (.i .i64 1)))⟩,
        ⟨some 18, none, .mov (.t 108)⟩] false []))))))
/-- spindle/symtab.Write -/
def F31_symtab_Write : SFn := ⟨1, true, true, [.tmp 2, .tmp 3],
  .seq
   (.region [⟨some 2, none, .mov (.c (.d (.sl 0 false [])))⟩,
    ⟨some 3, none, .mov (.c (.d (.i .i64 0)))⟩] false [])
   (.keep [0] (.seq
   (.region [⟨some 9, none, .mov (.t 0)⟩,
    ⟨some 10, none, .len false (.t 9)⟩,
    ⟨some 11, none, .bin .add (.t 10) (.c (.d (.i .i64 1)))⟩,
    ⟨some 12, none, .bin .mul (.c (.d (.i .i64 24))) (.t 11)⟩,
    ⟨some 13, none, .mkO 1 1 [.i .u8 0] (.c (.d (.i .i64 24))) (.t 12)⟩,
    ⟨some 4, none, .mov (.t 13)⟩] false [])
   (.keep [0, 4] (.seq
    (.region [⟨some 14, none, .build [.ni, .i .i64 0, .i .i64 0] []⟩,
     ⟨some 15, none, .box (.t 14)⟩,
     ⟨some 5, none, .mov (.t 15)⟩] false [])
    (.keep [0, 4, 5] (.seq
    (.seq
     (.region [⟨some 16, none, .mov (.t 0)⟩,
      ⟨some 17, none, .len false (.t 16)⟩,
      ⟨some 18, none, .mov (.c (.d (.i .i64 0)))⟩] false [])
     (.keep [4, 5, 16, 17, 18] (.block 0 (.loop [4, 5, 16, 17, 18] false F31_symtab_Write_b0))))
    (.keep [4] (.seq
     (.region [⟨some 109, none, .mov (.t 4)⟩,
      ⟨some 2, none, .mov (.t 109)⟩,
      ⟨some 3, none, .mov (.c (.d (.i .i64 0)))⟩] false [])
     (.ret)))))))))⟩

def F32_symtab_Read_b1 : SCode :=
  .seq
            (.region [⟨some 43, none, .bin .lss (.t 42) (.t 41)⟩] false [])
            (.keep [0, 5, 6, 7, 40, 41, 42, 43] (.seq
             (.cond (.t 43)
             (.skip)
             (.exit 2))
             (.keep [0, 5, 6, 7, 40, 41, 42] (.seq
             (.block 3 (.seq
              (.region [⟨some 44, none, .mov (.t 42)⟩,
               ⟨some 45, none, .iaddr 1 (.t 40) (.t 42)⟩,
               ⟨some 46, none, .load 1 false (.t 45)⟩,
               ⟨some 9, none, .mov (.t 44)⟩,
               ⟨some 10, none, .mov (.t 46)⟩] false [])
              (.keep [0, 5, 6, 7, 9, 10, 40, 41, 42] (.seq
               (.region [⟨some 47, none, .mov (.t 10)⟩,
                ⟨some 48, none, .bin .neq (.t 47) (.c (.d (.i .u8 0)))⟩] false [])
               (.keep [0, 5, 6, 7, 9, 40, 41, 42, 48] (.cond (.t 48)
               (.keep [9] (.seq
                (.region [⟨some 49, none, .mov (.t 9)⟩,
                 ⟨some 2, none, .mov (.c (.d (.sl 0 false [])))⟩,
                 ⟨some 3, none, .mov (.t 49)⟩,
                 ⟨some 4, none, .mov (.c (.d (.i .i64 100)))⟩] false [])
                (.ret)))
               (.skip)))))))
             (.keep [0, 5, 6, 7, 40, 41, 42] (.region [⟨some 50, none, .bin .add (.t 42) (.c (.d (.i .i64 1)))⟩,
              ⟨some 42, none, .mov (.t 50)⟩] false []))))))
def F32_symtab_Read_b0 : SCode :=
  .seq
      (.seq
       (.region [⟨some 16, none, .mov (.t 7)⟩,
        ⟨some 17, none, .bin .eql (.t 16) (.c (.d (.i .i64 0)))⟩,
        ⟨some 18, none, .mov (.t 17)⟩,
        ⟨some 19, (some (2, false)), .mov (.t 7)⟩,
        ⟨some 20, (some (2, false)), .mov (.t 0)⟩,
        ⟨some 21, (some (2, false)), .len false (.t 20)⟩,
        ⟨some 22, (some (2, false)), .bin .lss (.t 19) (.t 21)⟩,
        ⟨some 23, none, .pick (.t 18) (.c (.d (.b true))) (.t 22)⟩] false [])
       (.keep [0, 5, 6, 7, 23] (.cond (.t 23)
       (.skip)
       (.exit 0))))
      (.keep [0, 5, 6, 7] (.seq
       (.block 1 (.seq
        (.seq
        (.region [⟨some 26, none, .mov (.t 0)⟩,
         ⟨some 27, none, .len false (.t 26)⟩,
         ⟨some 28, none, .mov (.t 7)⟩,
         ⟨some 29, none, .bin .sub (.t 27) (.t 28)⟩,
         ⟨some 30, none, .bin .lss (.t 29) (.c (.d (.i .i64 24)))⟩] false [])
        (.keep [0, 5, 6, 7, 30] (.cond (.t 30)
         (.keep [0] (.seq
         (.region [⟨some 31, none, .mov (.t 0)⟩,
          ⟨some 32, none, .len false (.t 31)⟩,
          ⟨some 2, none, .mov (.c (.d (.sl 0 false [])))⟩,
          ⟨some 3, none, .mov (.t 32)⟩,
          ⟨some 4, none, .mov (.c (.d (.i .i64 100)))⟩] false [])
         (.ret)))
         (.skip))))
        (.keep [0, 5, 6, 7] (.seq
        (.region [⟨some 33, none, .mov (.t 0)⟩,
         ⟨some 34, none, .mov (.t 7)⟩,
         ⟨some 35, none, .mov (.t 7)⟩,
         ⟨some 36, none, .bin .add (.t 35) (.c (.d (.i .i64 24)))⟩,
         ⟨some 37, none, .slc 1 (.t 33) (some (.t 34)) (some (.t 36)) none⟩,
         ⟨some 8, none, .mov (.t 37)⟩] false [])
        (.keep [0, 5, 6, 7, 8] (.seq
         (.seq
         (.region [⟨some 38, none, .mov (.t 7)⟩,
          ⟨some 39, none, .bin .eql (.t 38) (.c (.d (.i .i64 0)))⟩] false [])
         (.keep [0, 5, 6, 7, 8, 39] (.cond (.t 39)
          (.keep [0, 5, 6, 7, 8] (.seq
          (.seq
           (.region [⟨some 40, none, .mov (.t 8)⟩,
            ⟨some 41, none, .len false (.t 40)⟩,
            ⟨some 42, none, .mov (.c (.d (.i .i64 0)))⟩] false [])
           (.keep [0, 5, 6, 7, 40, 41, 42] (.block 2 (.loop [0, 5, 6, 7, 40, 41, 42] false F32_symtab_Read_b1))))
          (.exit 1)))
          (.skip))))
         (.keep [0, 5, 6, 7, 8] (.seq
         (.region [⟨some 52, none, .mov (.t 8)⟩,
          ⟨some 53, none, .call 59 [.t 52]⟩,
          ⟨some 51, none, .mov (.t 53)⟩,
          ⟨some 54, none, .extract 0 (.t 51)⟩,
          ⟨some 55, none, .extract 1 (.t 51)⟩,
          ⟨some 56, none, .extract 2 (.t 51)⟩,
          ⟨some 11, none, .alloc [.i .i64 0, .i .i64 0, .i .i64 0, .i .i64 0, .i .i64 0, .i .i64 0]⟩,
          ⟨none, none, .store 6 (.t 11) (.t 54)⟩,
          ⟨some 12, none, .mov (.t 55)⟩,
          ⟨some 13, none, .mov (.t 56)⟩] false [])
         (.keep [0, 5, 6, 7, 11, 12, 13] (.seq
          (.seq
          (.region [⟨some 57, none, .mov (.t 13)⟩,
           ⟨some 58, none, .bin .geq (.t 57) (.c (.d (.i .i64 0)))⟩] false [])
          (.keep [0, 5, 6, 7, 11, 12, 13, 58] (.cond (.t 58)
           (.keep [7, 13] (.seq
           (.region [⟨some 59, none, .mov (.t 7)⟩,
            ⟨some 60, none, .mov (.t 13)⟩,
            ⟨some 61, none, .bin .add (.t 59) (.t 60)⟩,
            ⟨some 2, none, .mov (.c (.d (.sl 0 false [])))⟩,
            ⟨some 3, none, .mov (.t 61)⟩,
            ⟨some 4, none, .mov (.c (.d (.i .i64 100)))⟩] false [])
           (.ret)))
           (.skip))))
          (.keep [0, 5, 6, 7, 11, 12] (.seq
          (.seq
           (.region [⟨some 62, none, .mov (.t 6)⟩,
            ⟨some 63, none, .mov (.t 12)⟩,
            ⟨some 64, none, .faddr 4 (.t 11)⟩,
            ⟨some 65, none, .load 1 false (.t 64)⟩,
            ⟨some 66, none, .call 54 [.t 62, .t 63, .t 65]⟩,
            ⟨some 67, none, .un .not (.t 66)⟩] false [])
           (.keep [0, 5, 6, 7, 11, 67] (.cond (.t 67)
           (.keep [7] (.seq
            (.region [⟨some 68, none, .mov (.t 7)⟩,
             ⟨some 2, none, .mov (.c (.d (.sl 0 false [])))⟩,
             ⟨some 3, none, .mov (.t 68)⟩,
             ⟨some 4, none, .mov (.c (.d (.i .i64 101)))⟩] false [])
            (.ret)))
           (.skip))))
          (.keep [0, 5, 6, 7, 11] (.region [⟨some 69, none, .mov (.t 5)⟩,
           ⟨some 70, none, .load 6 true (.t 11)⟩,
           ⟨some 71, none, .lits 1 [.i .i64 0, .i .i64 0, .i .i64 0, .i .i64 0, .i .i64 0, .i .i64 0] [(0, 6, .t 70)]⟩,
           ⟨some 72, none, .app 6 48 (.t 69) (.t 71)⟩,
           ⟨some 5, none, .mov (.t 72)⟩] false []))))))))))))))
       (.keep [0, 5, 6, 7] (.region [⟨some 24, none, .mov (.t 7)⟩,
        ⟨some 25, none, .bin .add (.t 24) (.c (.d (.i .i64 24)))⟩,
        ⟨some 7, none, .mov (.t 25)⟩] false []))))
/-- spindle/symtab.Read -/
def F32_symtab_Read : SFn := ⟨1, true, true, [.tmp 2, .tmp 3, .tmp 4],
  .seq
   (.region [⟨some 2, none, .mov (.c (.d (.sl 0 false [])))⟩,
    ⟨some 3, none, .mov (.c (.d (.i .i64 0)))⟩,
    ⟨some 4, none, .mov (.c (.d (.i .i64 0)))⟩] false [])
   (.keep [0] (.seq
   (.region [⟨some 5, none, .tok 6 (.c (.d (.sl 0 false [])))⟩] false [])
   (.keep [0, 5] (.seq
    (.region [⟨some 14, none, .build [.ni, .i .i64 0, .i .i64 0] []⟩,
     ⟨some 15, none, .box (.t 14)⟩,
     ⟨some 6, none, .mov (.t 15)⟩] false [])
    (.keep [0, 5, 6] (.seq
    (.seq
     (.region [⟨some 7, none, .mov (.c (.d (.i .i64 0)))⟩] false [])
     (.keep [0, 5, 6, 7] (.block 0 (.loop [0, 5, 6, 7] false F32_symtab_Read_b0))))
    (.keep [5] (.seq
     (.region [⟨some 73, none, .mov (.t 5)⟩,
      ⟨some 2, none, .mov (.t 73)⟩,
      ⟨some 3, none, .mov (.c (.d (.i .i64 0)))⟩,
      ⟨some 4, none, .mov (.c (.d (.i .i64 0)))⟩] false [])
     (.ret)))))))))⟩

def F44_symtab_sortOf_b0 : SCode :=
  .seq
     (.region [⟨some 16, none, .bin .lss (.t 15) (.t 14)⟩] false [])
     (.keep [0, 13, 14, 15, 16] (.seq
      (.cond (.t 16)
      (.skip)
      (.exit 0))
      (.keep [0, 13, 14, 15] (.seq
      (.block 1 (.seq
       (.region [⟨some 17, none, .iaddr 1 (.t 13) (.t 15)⟩,
        ⟨some 18, none, .load 1 false (.t 17)⟩,
        ⟨some 4, none, .mov (.t 18)⟩] false [])
       (.keep [0, 4, 13, 14, 15] (.seq
        (.region [⟨some 19, none, .mov (.t 4)⟩,
         ⟨some 20, none, .invoke [(0, 56), (1, 57), (2, 58)] (.t 19) []⟩,
         ⟨some 21, none, .mov (.t 0)⟩,
         ⟨some 22, none, .bin .eql (.t 20) (.t 21)⟩] false [])
        (.keep [0, 4, 13, 14, 15, 22] (.cond (.t 22)
        (.keep [4] (.seq
         (.region [⟨some 23, none, .mov (.t 4)⟩,
          ⟨some 2, none, .mov (.t 23)⟩] false [])
         (.ret)))
        (.skip)))))))
      (.keep [0, 13, 14, 15] (.region [⟨some 24, none, .bin .add (.t 15) (.c (.d (.i .i64 1)))⟩,
       ⟨some 15, none, .mov (.t 24)⟩] false []))))))
/-- spindle/symtab.sortOf -/
def F44_symtab_sortOf : SFn := ⟨1, true, true, [.tmp 2],
  .seq
   (.region [⟨some 2, none, .mov (.c (.d (.ni)))⟩] false [])
   (.keep [0] (.seq
   (.seq
    (.region [⟨some 5, none, .build [.b false] []⟩,
     ⟨some 6, none, .mkI 0 true (.t 5)⟩,
     ⟨some 7, none, .build [] []⟩,
     ⟨some 8, none, .mkI 1 true (.t 7)⟩,
     ⟨some 9, none, .build [.b false] [(0, 1, .c (.d (.b true)))]⟩,
     ⟨some 10, none, .mkI 0 true (.t 9)⟩,
     ⟨some 11, none, .build [] []⟩,
     ⟨some 12, none, .mkI 2 true (.t 11)⟩,
     ⟨some 13, none, .lits 4 [.ni] [(0, 1, .t 6), (1, 1, .t 8), (2, 1, .t 10), (3, 1, .t 12)]⟩,
     ⟨some 14, none, .len false (.t 13)⟩,
     ⟨some 15, none, .mov (.c (.d (.i .i64 0)))⟩] false [])
    (.keep [0, 13, 14, 15] (.block 0 (.loop [0, 13, 14, 15] false F44_symtab_sortOf_b0))))
   (.keep [] (.seq
    (.region [⟨some 2, none, .mov (.c (.d (.ni)))⟩] false [])
    (.ret)))))⟩

/-- (spindle/symtab.function).section -/
def F45_symtab_function_section : SFn := ⟨1, true, true, [.tmp 2],
  .seq
   (.region [⟨some 1, none, .box (.t 0)⟩,
    ⟨some 2, none, .mov (.c (.d (.i .i64 0)))⟩] false [])
   (.keep [] (.seq
   (.region [⟨some 2, none, .mov (.c (.d (.i .i64 1)))⟩] false [])
   (.ret)))⟩

/-- (spindle/symtab.table).section -/
def F46_symtab_table_section : SFn := ⟨1, true, true, [.tmp 2],
  .seq
   (.region [⟨some 1, none, .box (.t 0)⟩,
    ⟨some 2, none, .mov (.c (.d (.i .i64 0)))⟩] false [])
   (.keep [] (.seq
   (.region [⟨some 2, none, .mov (.c (.d (.i .i64 2)))⟩] false [])
   (.ret)))⟩

/-- (spindle/symtab.extern).section -/
def F47_symtab_extern_section : SFn := ⟨1, true, true, [.tmp 2],
  .seq
   (.region [⟨some 1, none, .box (.t 0)⟩,
    ⟨some 2, none, .mov (.c (.d (.i .i64 0)))⟩] false [])
   (.keep [] (.seq
   (.region [⟨some 2, none, .mov (.c (.d (.i .i64 0)))⟩] false [])
   (.ret)))⟩

/-- (spindle/symtab.function).value -/
def F48_symtab_function_value : SFn := ⟨2, true, true, [.tmp 4],
  .seq
   (.region [⟨some 2, none, .box (.t 0)⟩,
    ⟨some 4, none, .mov (.c (.d (.b false)))⟩] false [])
   (.keep [1] (.seq
   (.region [⟨some 5, none, .mov (.t 1)⟩,
    ⟨some 6, none, .bin .geq (.t 5) (.c (.d (.i .i64 0)))⟩,
    ⟨some 7, none, .mov (.t 6)⟩,
    ⟨some 8, (some (2, true)), .mov (.t 1)⟩,
    ⟨some 9, (some (2, true)), .bin .rem (.t 8) (.c (.d (.i .i64 8)))⟩,
    ⟨some 10, (some (2, true)), .bin .eql (.t 9) (.c (.d (.i .i64 0)))⟩,
    ⟨some 11, none, .pick (.t 7) (.t 10) (.c (.d (.b false)))⟩,
    ⟨some 4, none, .mov (.t 11)⟩] false [])
   (.ret)))⟩

/-- (spindle/symtab.table).value -/
def F49_symtab_table_value : SFn := ⟨2, true, true, [.tmp 4],
  .seq
   (.region [⟨some 2, none, .box (.t 0)⟩,
    ⟨some 4, none, .mov (.c (.d (.b false)))⟩] false [])
   (.keep [1] (.seq
   (.region [⟨some 5, none, .mov (.t 1)⟩,
    ⟨some 6, none, .bin .geq (.t 5) (.c (.d (.i .i64 0)))⟩,
    ⟨some 7, none, .mov (.t 6)⟩,
    ⟨some 8, (some (2, true)), .mov (.t 1)⟩,
    ⟨some 9, (some (2, true)), .bin .rem (.t 8) (.c (.d (.i .i64 16)))⟩,
    ⟨some 10, (some (2, true)), .bin .eql (.t 9) (.c (.d (.i .i64 0)))⟩,
    ⟨some 11, none, .pick (.t 7) (.t 10) (.c (.d (.b false)))⟩,
    ⟨some 4, none, .mov (.t 11)⟩] false [])
   (.ret)))⟩

/-- (spindle/symtab.extern).value -/
def F50_symtab_extern_value : SFn := ⟨2, true, true, [.tmp 4],
  .seq
   (.region [⟨some 2, none, .box (.t 0)⟩,
    ⟨some 4, none, .mov (.c (.d (.b false)))⟩] false [])
   (.keep [1] (.seq
   (.region [⟨some 5, none, .mov (.t 1)⟩,
    ⟨some 6, none, .bin .eql (.t 5) (.c (.d (.i .i64 0)))⟩,
    ⟨some 4, none, .mov (.t 6)⟩] false [])
   (.ret)))⟩

/-- (spindle/symtab.function).size -/
def F51_symtab_function_size : SFn := ⟨2, true, true, [.tmp 4],
  .seq
   (.region [⟨some 2, none, .box (.t 0)⟩,
    ⟨some 4, none, .mov (.c (.d (.b false)))⟩] false [])
   (.keep [1] (.seq
   (.region [⟨some 5, none, .mov (.t 1)⟩,
    ⟨some 6, none, .bin .gtr (.t 5) (.c (.d (.i .i64 0)))⟩,
    ⟨some 7, none, .mov (.t 6)⟩,
    ⟨some 8, (some (2, true)), .mov (.t 1)⟩,
    ⟨some 9, (some (2, true)), .bin .rem (.t 8) (.c (.d (.i .i64 8)))⟩,
    ⟨some 10, (some (2, true)), .bin .eql (.t 9) (.c (.d (.i .i64 0)))⟩,
    ⟨some 11, none, .pick (.t 7) (.t 10) (.c (.d (.b false)))⟩,
    ⟨some 4, none, .mov (.t 11)⟩] false [])
   (.ret)))⟩

/-- (spindle/symtab.table).size -/
def F52_symtab_table_size : SFn := ⟨2, true, true, [.tmp 4],
  .seq
   (.region [⟨some 2, none, .box (.t 0)⟩,
    ⟨some 4, none, .mov (.c (.d (.b false)))⟩] false [])
   (.keep [1] (.seq
   (.region [⟨some 5, none, .mov (.t 1)⟩,
    ⟨some 6, none, .bin .eql (.t 5) (.c (.d (.i .i64 16)))⟩,
    ⟨some 4, none, .mov (.t 6)⟩] false [])
   (.ret)))⟩

/-- (spindle/symtab.extern).size -/
def F53_symtab_extern_size : SFn := ⟨2, true, true, [.tmp 4],
  .seq
   (.region [⟨some 2, none, .box (.t 0)⟩,
    ⟨some 4, none, .mov (.c (.d (.b false)))⟩] false [])
   (.keep [1] (.seq
   (.region [⟨some 5, none, .mov (.t 1)⟩,
    ⟨some 6, none, .bin .eql (.t 5) (.c (.d (.i .i64 0)))⟩,
    ⟨some 4, none, .mov (.t 6)⟩] false [])
   (.ret)))⟩

/-- (*spindle/symtab.order).next -/
def F54_symtab_order_next : SFn := ⟨3, false, false, [.tmp 6],
  .seq
   (.region [⟨some 6, none, .mov (.c (.d (.b false)))⟩] false [])
   (.keep [0, 1, 2] (.seq
   (.region [⟨some 8, none, .mov (.t 0)⟩,
    ⟨some 9, none, .nilChk (.t 8)⟩,
    ⟨some 10, none, .faddr 0 (.t 9)⟩,
    ⟨some 11, none, .load 1 false (.t 10)⟩,
    ⟨some 12, none, .eqv false [10] (.t 11) (.c (.d (.ni)))⟩,
    ⟨some 13, none, .mov (.t 12)⟩,
    ⟨some 14, (some (5, false)), .mov (.t 1)⟩,
    ⟨some 15, (some (5, false)), .invoke [(0, 61), (1, 62), (2, 63)] (.t 14) []⟩,
    ⟨some 16, (some (5, false)), .mov (.t 0)⟩,
    ⟨some 17, (some (5, false)), .nilChk (.t 16)⟩,
    ⟨some 18, (some (5, false)), .faddr 0 (.t 17)⟩,
    ⟨some 19, (some (5, false)), .load 1 false (.t 18)⟩,
    ⟨some 20, (some (5, false)), .invoke [(0, 61), (1, 62), (2, 63)] (.t 19) []⟩,
    ⟨some 21, (some (5, false)), .bin .geq (.t 15) (.t 20)⟩,
    ⟨some 22, none, .pick (.t 13) (.c (.d (.b true))) (.t 21)⟩,
    ⟨some 7, none, .mov (.t 22)⟩] true [0, 1, 3, 7, 15, 31, 63, 127, 63, 319, 831, 1855, 4095, 8191, 16383, 32767])
   (.keep [0, 1, 2, 7] (.seq
    (.seq
    (.region [⟨some 23, none, .mov (.t 1)⟩] false [])
    (.keep [0, 1, 2, 7, 23] (.block 0 (.seq
     (.region [⟨some 24, none, .assertT 0 [1, 2] true [.b false] true (.t 23)⟩,
      ⟨some 25, none, .extract 1 (.t 24)⟩,
      ⟨some 26, none, .extract 0 (.t 24)⟩] false [])
     (.keep [0, 1, 2, 7, 23, 25] (.cond (.t 25)
      (.keep [0, 1, 2, 7] (.seq
      (.region [⟨some 27, none, .mov (.t 0)⟩,
       ⟨some 28, none, .nilChk (.t 27)⟩,
       ⟨some 29, none, .faddr 0 (.t 28)⟩,
       ⟨some 30, none, .load 1 false (.t 29)⟩,
       ⟨some 31, none, .eqv true [10] (.t 30) (.c (.d (.ni)))⟩,
       ⟨some 32, none, .mov (.t 31)⟩,
       ⟨some 33, (some (5, true)), .mov (.t 1)⟩,
       ⟨some 34, (some (5, true)), .invoke [(0, 61), (1, 62), (2, 63)] (.t 33) []⟩,
       ⟨some 35, (some (5, true)), .mov (.t 0)⟩,
       ⟨some 36, (some (5, true)), .nilChk (.t 35)⟩,
       ⟨some 37, (some (5, true)), .faddr 0 (.t 36)⟩,
       ⟨some 38, (some (5, true)), .load 1 false (.t 37)⟩,
       ⟨some 39, (some (5, true)), .invoke [(0, 61), (1, 62), (2, 63)] (.t 38) []⟩,
       ⟨some 40, (some (5, true)), .bin .eql (.t 34) (.t 39)⟩,
       ⟨some 41, none, .pick (.t 32) (.t 40) (.c (.d (.b false)))⟩,
       ⟨some 42, none, .mov (.t 41)⟩,
       ⟨some 43, (some (15, true)), .mov (.t 2)⟩,
       ⟨some 44, (some (15, true)), .mov (.t 0)⟩,
       ⟨some 45, (some (15, true)), .nilChk (.t 44)⟩,
       ⟨some 46, (some (15, true)), .faddr 1 (.t 45)⟩,
       ⟨some 47, (some (15, true)), .load 1 false (.t 46)⟩,
       ⟨some 48, (some (15, true)), .bin .leq (.t 43) (.t 47)⟩,
       ⟨some 49, none, .pick (.t 42) (.t 48) (.c (.d (.b false)))⟩] true [0, 1, 3, 7, 15, 31, 63, 127, 63, 319, 831, 1855, 4095, 8191, 16383, 32767, 65535, 65535, 196607, 458751, 983039, 2097151, 4194303])
      (.keep [0, 1, 2, 7, 49] (.cond (.t 49)
       (.keep [0, 1, 2] (.region [⟨some 7, none, .mov (.c (.d (.b false)))⟩] false []))
       (.skip)))))
      (.keep [0, 1, 2, 7, 23] (.seq
      (.region [⟨some 50, none, .assertT 1 [0, 2] true [] true (.t 23)⟩,
       ⟨some 51, none, .extract 1 (.t 50)⟩,
       ⟨some 52, none, .extract 0 (.t 50)⟩] false [])
      (.keep [0, 1, 2, 7, 51] (.cond (.t 51)
       (.keep [0, 1, 2, 7] (.seq
       (.seq
        (.region [⟨some 53, none, .mov (.t 2)⟩,
         ⟨some 54, none, .mov (.t 0)⟩,
         ⟨some 55, none, .nilChk (.t 54)⟩,
         ⟨some 56, none, .faddr 2 (.t 55)⟩,
         ⟨some 57, none, .load 1 false (.t 56)⟩,
         ⟨some 58, none, .bin .mul (.c (.d (.i .i64 16))) (.t 57)⟩,
         ⟨some 59, none, .bin .neq (.t 53) (.t 58)⟩] false [])
        (.keep [0, 1, 2, 7, 59] (.cond (.t 59)
        (.keep [0, 1, 2] (.region [⟨some 7, none, .mov (.c (.d (.b false)))⟩] false []))
        (.skip))))
       (.keep [0, 1, 2, 7] (.region [⟨some 60, none, .mov (.t 0)⟩,
        ⟨some 61, none, .nilChk (.t 60)⟩,
        ⟨some 62, none, .faddr 2 (.t 61)⟩,
        ⟨some 63, none, .load 1 false (.t 62)⟩,
        ⟨some 64, none, .bin .add (.t 63) (.c (.d (.i .i64 1)))⟩,
        ⟨some 65, none, .nilChk (.t 60)⟩,
        ⟨some 66, none, .faddr 2 (.t 65)⟩,
        ⟨none, none, .store 1 (.t 66) (.t 64)⟩] false []))))
       (.skip)))))))))))
    (.keep [0, 1, 2, 7] (.seq
    (.region [⟨some 67, none, .mov (.t 0)⟩,
     ⟨some 68, none, .mov (.t 0)⟩,
     ⟨some 69, none, .mov (.t 1)⟩,
     ⟨some 70, none, .mov (.t 2)⟩,
     ⟨some 71, none, .nilChk (.t 67)⟩,
     ⟨some 72, none, .faddr 0 (.t 71)⟩,
     ⟨none, none, .store 1 (.t 72) (.t 69)⟩,
     ⟨some 73, none, .nilChk (.t 68)⟩,
     ⟨some 74, none, .faddr 1 (.t 73)⟩,
     ⟨none, none, .store 1 (.t 74) (.t 70)⟩] false [])
    (.keep [7] (.seq
     (.region [⟨some 75, none, .mov (.t 7)⟩,
      ⟨some 6, none, .mov (.t 75)⟩] false [])
     (.ret)))))))))⟩

def F55_symtab_put_b0 : SCode :=
  .seq
     (.region [⟨some 10, none, .bin .lss (.t 9) (.t 8)⟩] false [])
     (.keep [0, 1, 8, 9, 10] (.seq
      (.cond (.t 10)
      (.skip)
      (.exit 0))
      (.keep [0, 1, 8, 9] (.seq
      (.block 1 (.seq
       (.region [⟨some 11, none, .mov (.t 9)⟩,
        ⟨some 7, none, .mov (.t 11)⟩] false [])
       (.keep [0, 1, 7, 8, 9] (.region [⟨some 12, none, .mov (.t 0)⟩,
        ⟨some 13, none, .mov (.t 1)⟩,
        ⟨some 14, none, .mov (.t 7)⟩,
        ⟨some 15, none, .bin .mul (.c (.d (.i .i64 8))) (.t 14)⟩,
        ⟨some 16, none, .bin .shr (.t 13) (.t 15)⟩,
        ⟨some 17, none, .conv .u8 (.t 16)⟩,
        ⟨some 18, none, .lits 1 [.i .u8 0] [(0, 1, .t 17)]⟩,
        ⟨some 19, none, .app 1 1 (.t 12) (.t 18)⟩,
        ⟨some 0, none, .mov (.t 19)⟩] false []))))
      (.keep [0, 1, 8, 9] (.region [⟨some 20, none, .bin .add (.t 9) (.c (.d (.i .i64 1)))⟩,
       ⟨some 9, none, .mov (.t 20)⟩] false []))))))
/-- spindle/symtab.put -/
def F55_symtab_put : SFn := ⟨3, false, false, [.tmp 6],
  .seq
   (.region [⟨some 6, none, .mov (.c (.d (.sl 0 false [])))⟩] false [])
   (.keep [0, 1, 2] (.seq
   (.seq
    (.region [⟨some 8, none, .mov (.t 2)⟩,
     ⟨some 9, none, .mov (.c (.d (.i .i64 0)))⟩] false [])
    (.keep [0, 1, 8, 9] (.block 0 (.loop [0, 1, 8, 9] false F55_symtab_put_b0))))
   (.keep [0] (.seq
    (.region [⟨some 21, none, .mov (.t 0)⟩,
     ⟨some 6, none, .mov (.t 21)⟩] false [])
    (.ret)))))⟩

/-- (spindle/symtab.function).info -/
def F56_symtab_function_info : SFn := ⟨1, true, true, [.tmp 2],
  .seq
   (.region [⟨some 1, none, .box (.t 0)⟩,
    ⟨some 2, none, .mov (.c (.d (.i .i64 0)))⟩] false [])
   (.keep [1] (.seq
   (.seq
    (.region [⟨some 3, none, .faddr 0 (.t 1)⟩,
     ⟨some 4, none, .load 1 false (.t 3)⟩] false [])
    (.keep [4] (.cond (.t 4)
    (.keep [] (.seq
     (.region [⟨some 2, none, .mov (.c (.d (.i .i64 18)))⟩] false [])
     (.ret)))
    (.skip))))
   (.keep [] (.seq
    (.region [⟨some 2, none, .mov (.c (.d (.i .i64 2)))⟩] false [])
    (.ret)))))⟩

/-- (spindle/symtab.table).info -/
def F57_symtab_table_info : SFn := ⟨1, true, true, [.tmp 2],
  .seq
   (.region [⟨some 1, none, .box (.t 0)⟩,
    ⟨some 2, none, .mov (.c (.d (.i .i64 0)))⟩] false [])
   (.keep [] (.seq
   (.region [⟨some 2, none, .mov (.c (.d (.i .i64 1)))⟩] false [])
   (.ret)))⟩

/-- (spindle/symtab.extern).info -/
def F58_symtab_extern_info : SFn := ⟨1, true, true, [.tmp 2],
  .seq
   (.region [⟨some 1, none, .box (.t 0)⟩,
    ⟨some 2, none, .mov (.c (.d (.i .i64 0)))⟩] false [])
   (.keep [] (.seq
   (.region [⟨some 2, none, .mov (.c (.d (.i .i64 16)))⟩] false [])
   (.ret)))⟩

/-- spindle/symtab.entry -/
def F59_symtab_entry : SFn := ⟨1, true, true, [.cell 2 6 true, .tmp 3, .tmp 4],
  .seq
   (.region [⟨some 2, none, .alloc [.i .i64 0, .i .i64 0, .i .i64 0, .i .i64 0, .i .i64 0, .i .i64 0]⟩,
    ⟨some 3, none, .mov (.c (.d (.ni)))⟩,
    ⟨some 4, none, .mov (.c (.d (.i .i64 0)))⟩] false [])
   (.keep [0, 2] (.seq
   (.region [⟨some 7, none, .mov (.t 0)⟩,
    ⟨some 8, none, .iaddr 1 (.t 7) (.c (.d (.i .i64 4)))⟩,
    ⟨some 9, none, .load 1 false (.t 8)⟩,
    ⟨some 10, none, .conv .i64 (.t 9)⟩,
    ⟨some 11, none, .call 44 [.t 10]⟩,
    ⟨some 5, none, .mov (.t 11)⟩] false [])
   (.keep [0, 2, 5] (.seq
    (.seq
    (.region [⟨some 12, none, .mov (.t 5)⟩,
     ⟨some 13, none, .eqv false [10] (.t 12) (.c (.d (.ni)))⟩] false [])
    (.keep [0, 2, 5, 13] (.cond (.t 13)
     (.keep [2] (.seq
     (.region [⟨some 14, none, .build [.i .i64 0, .i .i64 0, .i .i64 0, .i .i64 0, .i .i64 0, .i .i64 0] []⟩,
      ⟨none, none, .store 6 (.t 2) (.t 14)⟩,
      ⟨some 3, none, .mov (.c (.d (.ni)))⟩,
      ⟨some 4, none, .mov (.c (.d (.i .i64 4)))⟩] false [])
     (.ret)))
     (.skip))))
    (.keep [0, 2, 5] (.seq
    (.region [⟨some 15, none, .mov (.t 0)⟩,
     ⟨some 16, none, .call 64 [.t 15, .c (.d (.i .i64 0)), .c (.d (.i .i64 4))]⟩,
     ⟨some 17, none, .mov (.t 0)⟩,
     ⟨some 18, none, .iaddr 1 (.t 17) (.c (.d (.i .i64 4)))⟩,
     ⟨some 19, none, .load 1 false (.t 18)⟩,
     ⟨some 20, none, .bin .shr (.t 19) (.c (.d (.i .u64 4)))⟩,
     ⟨some 21, none, .conv .i64 (.t 20)⟩,
     ⟨some 22, none, .mov (.t 0)⟩,
     ⟨some 23, none, .iaddr 1 (.t 22) (.c (.d (.i .i64 4)))⟩,
     ⟨some 24, none, .load 1 false (.t 23)⟩,
     ⟨some 25, none, .bin .and (.t 24) (.c (.d (.i .u8 15)))⟩,
     ⟨some 26, none, .conv .i64 (.t 25)⟩,
     ⟨some 27, none, .mov (.t 0)⟩,
     ⟨some 28, none, .call 64 [.t 27, .c (.d (.i .i64 6)), .c (.d (.i .i64 2))]⟩,
     ⟨some 29, none, .mov (.t 0)⟩,
     ⟨some 30, none, .call 64 [.t 29, .c (.d (.i .i64 8)), .c (.d (.i .i64 8))]⟩,
     ⟨some 31, none, .mov (.t 0)⟩,
     ⟨some 32, none, .call 64 [.t 31, .c (.d (.i .i64 16)), .c (.d (.i .i64 8))]⟩,
     ⟨some 33, none, .build [.i .i64 0, .i .i64 0, .i .i64 0, .i .i64 0, .i .i64 0, .i .i64 0] [(0, 1, .t 16), (1, 1, .t 21), (2, 1, .t 26), (3, 1, .t 28), (4, 1, .t 30), (5, 1, .t 32)]⟩,
     ⟨some 6, none, .alloc [.i .i64 0, .i .i64 0, .i .i64 0, .i .i64 0, .i .i64 0, .i .i64 0]⟩,
     ⟨none, none, .store 6 (.t 6) (.t 33)⟩] true [0, 1, 0, 4, 12, 28, 60, 0, 128, 384, 896, 1920, 0, 4099, 0, 28675, 0, 126979, 262143, 0, 1048575])
    (.keep [0, 2, 5, 6] (.seq
     (.block 0 (.seq
      (.region [⟨some 35, none, .mov (.t 0)⟩,
       ⟨some 36, none, .iaddr 1 (.t 35) (.c (.d (.i .i64 5)))⟩,
       ⟨some 37, none, .load 1 false (.t 36)⟩,
       ⟨some 38, none, .bin .neq (.t 37) (.c (.d (.i .u8 0)))⟩,
       ⟨some 34, none, .mov (.t 38)⟩] false [])
      (.keep [2, 5, 6, 34] (.cond (.t 34)
      (.keep [2, 5, 6] (.seq
       (.region [⟨some 39, none, .load 6 true (.t 6)⟩,
        ⟨some 40, none, .mov (.t 5)⟩,
        ⟨none, none, .store 6 (.t 2) (.t 39)⟩,
        ⟨some 3, none, .mov (.t 40)⟩,
        ⟨some 4, none, .mov (.c (.d (.i .i64 5)))⟩] false [])
       (.ret)))
      (.keep [2, 5, 6] (.seq
       (.region [⟨some 42, none, .faddr 3 (.t 6)⟩,
        ⟨some 43, none, .load 1 false (.t 42)⟩,
        ⟨some 44, none, .mov (.t 5)⟩,
        ⟨some 45, none, .invoke [(0, 45), (1, 46), (2, 47)] (.t 44) []⟩,
        ⟨some 46, none, .bin .neq (.t 43) (.t 45)⟩,
        ⟨some 41, none, .mov (.t 46)⟩] true [0, 1, 0, 4, 15, 31])
       (.keep [2, 5, 6, 41] (.cond (.t 41)
       (.keep [2, 5, 6] (.seq
        (.region [⟨some 47, none, .load 6 true (.t 6)⟩,
         ⟨some 48, none, .mov (.t 5)⟩,
         ⟨none, none, .store 6 (.t 2) (.t 47)⟩,
         ⟨some 3, none, .mov (.t 48)⟩,
         ⟨some 4, none, .mov (.c (.d (.i .i64 6)))⟩] false [])
        (.ret)))
       (.keep [2, 5, 6] (.seq
        (.region [⟨some 50, none, .mov (.t 5)⟩,
         ⟨some 51, none, .faddr 4 (.t 6)⟩,
         ⟨some 52, none, .load 1 false (.t 51)⟩,
         ⟨some 53, none, .invoke [(0, 48), (1, 49), (2, 50)] (.t 50) [.t 52]⟩,
         ⟨some 54, none, .un .not (.t 53)⟩,
         ⟨some 49, none, .mov (.t 54)⟩] false [])
        (.keep [2, 5, 6, 49] (.cond (.t 49)
        (.keep [2, 5, 6] (.seq
         (.region [⟨some 55, none, .load 6 true (.t 6)⟩,
          ⟨some 56, none, .mov (.t 5)⟩,
          ⟨none, none, .store 6 (.t 2) (.t 55)⟩,
          ⟨some 3, none, .mov (.t 56)⟩,
          ⟨some 4, none, .mov (.c (.d (.i .i64 8)))⟩] false [])
         (.ret)))
        (.keep [2, 5, 6] (.seq
         (.region [⟨some 58, none, .mov (.t 5)⟩,
          ⟨some 59, none, .faddr 5 (.t 6)⟩,
          ⟨some 60, none, .load 1 false (.t 59)⟩,
          ⟨some 61, none, .invoke [(0, 51), (1, 52), (2, 53)] (.t 58) [.t 60]⟩,
          ⟨some 62, none, .un .not (.t 61)⟩,
          ⟨some 57, none, .mov (.t 62)⟩] false [])
         (.keep [2, 5, 6, 57] (.cond (.t 57)
         (.keep [2, 5, 6] (.seq
          (.region [⟨some 63, none, .load 6 true (.t 6)⟩,
           ⟨some 64, none, .mov (.t 5)⟩,
           ⟨none, none, .store 6 (.t 2) (.t 63)⟩,
           ⟨some 3, none, .mov (.t 64)⟩,
           ⟨some 4, none, .mov (.c (.d (.i .i64 16)))⟩] false [])
          (.ret)))
         (.skip)))))))))))))))))
     (.keep [2, 5, 6] (.seq
     (.region [⟨some 65, none, .load 6 true (.t 6)⟩,
      ⟨some 66, none, .mov (.t 5)⟩,
      ⟨none, none, .store 6 (.t 2) (.t 65)⟩,
      ⟨some 3, none, .mov (.t 66)⟩,
      ⟨some 4, none, .mov (.c (.d (.i .i64 (-1))))⟩] false [])
     (.ret)))))))))))⟩

/-- (spindle/symtab.function).rank -/
def F61_symtab_function_rank : SFn := ⟨1, true, true, [.tmp 2],
  .seq
   (.region [⟨some 1, none, .box (.t 0)⟩,
    ⟨some 2, none, .mov (.c (.d (.i .i64 0)))⟩] false [])
   (.keep [1] (.seq
   (.seq
    (.region [⟨some 3, none, .faddr 0 (.t 1)⟩,
     ⟨some 4, none, .load 1 false (.t 3)⟩] false [])
    (.keep [4] (.cond (.t 4)
    (.keep [] (.seq
     (.region [⟨some 2, none, .mov (.c (.d (.i .i64 3)))⟩] false [])
     (.ret)))
    (.skip))))
   (.keep [] (.seq
    (.region [⟨some 2, none, .mov (.c (.d (.i .i64 1)))⟩] false [])
    (.ret)))))⟩

/-- (spindle/symtab.table).rank -/
def F62_symtab_table_rank : SFn := ⟨1, true, true, [.tmp 2],
  .seq
   (.region [⟨some 1, none, .box (.t 0)⟩,
    ⟨some 2, none, .mov (.c (.d (.i .i64 0)))⟩] false [])
   (.keep [] (.seq
   (.region [⟨some 2, none, .mov (.c (.d (.i .i64 2)))⟩] false [])
   (.ret)))⟩

/-- (spindle/symtab.extern).rank -/
def F63_symtab_extern_rank : SFn := ⟨1, true, true, [.tmp 2],
  .seq
   (.region [⟨some 1, none, .box (.t 0)⟩,
    ⟨some 2, none, .mov (.c (.d (.i .i64 0)))⟩] false [])
   (.keep [] (.seq
   (.region [⟨some 2, none, .mov (.c (.d (.i .i64 4)))⟩] false [])
   (.ret)))⟩

def F64_symtab_get_b0 : SCode :=
  .seq
      (.region [⟨some 11, none, .bin .lss (.t 10) (.t 9)⟩] false [])
      (.keep [0, 1, 7, 9, 10, 11] (.seq
      (.cond (.t 11)
       (.skip)
       (.exit 0))
      (.keep [0, 1, 7, 9, 10] (.seq
       (.block 1 (.seq
        (.region [⟨some 12, none, .mov (.t 10)⟩,
         ⟨some 8, none, .mov (.t 12)⟩] false [])
        (.keep [0, 1, 7, 8, 9, 10] (.region [⟨some 13, none, .mov (.t 7)⟩,
         ⟨some 14, none, .mov (.t 0)⟩,
         ⟨some 15, none, .mov (.t 1)⟩,
         ⟨some 16, none, .mov (.t 8)⟩,
         ⟨some 17, none, .bin .add (.t 15) (.t 16)⟩,
         ⟨some 18, none, .iaddr 1 (.t 14) (.t 17)⟩,
         ⟨some 19, none, .load 1 false (.t 18)⟩,
         ⟨some 20, none, .conv .i64 (.t 19)⟩,
         ⟨some 21, none, .mov (.t 8)⟩,
         ⟨some 22, none, .bin .mul (.c (.d (.i .i64 8))) (.t 21)⟩,
         ⟨some 23, none, .bin .shl (.t 20) (.t 22)⟩,
         ⟨some 24, none, .bin .or (.t 13) (.t 23)⟩,
         ⟨some 7, none, .mov (.t 24)⟩] false []))))
       (.keep [0, 1, 7, 9, 10] (.region [⟨some 25, none, .bin .add (.t 10) (.c (.d (.i .i64 1)))⟩,
        ⟨some 10, none, .mov (.t 25)⟩] false []))))))
/-- spindle/symtab.get -/
def F64_symtab_get : SFn := ⟨3, true, true, [.tmp 6],
  .seq
   (.region [⟨some 6, none, .mov (.c (.d (.i .i64 0)))⟩] false [])
   (.keep [0, 1, 2] (.seq
   (.region [⟨some 7, none, .mov (.c (.d (.i .i64 0)))⟩] false [])
   (.keep [0, 1, 2, 7] (.seq
    (.seq
    (.region [⟨some 9, none, .mov (.t 2)⟩,
     ⟨some 10, none, .mov (.c (.d (.i .i64 0)))⟩] false [])
    (.keep [0, 1, 7, 9, 10] (.block 0 (.loop [0, 1, 7, 9, 10] false F64_symtab_get_b0))))
    (.keep [7] (.seq
    (.region [⟨some 26, none, .mov (.t 7)⟩,
     ⟨some 6, none, .mov (.t 26)⟩] false [])
    (.ret)))))))⟩
end Go.Sh
