/- Shadow functions of elf, written by tr.py. -/
import Derived.Test.YtpgipjjhapapjaaShBa
namespace Go.Sh
def F177_elf_Write_b0 : SCode :=
  .seq
        (.region [⟨some 38, none, .bin .lss (.t 37) (.t 36)⟩] false [])
        (.keep [4, 5, 6, 35, 36, 37, 38] (.seq
        (.cond (.t 38)
         (.skip)
         (.exit 0))
        (.keep [4, 5, 6, 35, 36, 37] (.seq
         (.block 1 (.seq
          (.region [⟨some 39, none, .iaddr 8 (.t 35) (.t 37)⟩,
           ⟨some 40, none, .load 8 true (.t 39)⟩,
           ⟨some 8, none, .alloc [.s [], .i .i64 0, .i .i64 0, .i .i64 0, .i .i64 0, .i .i64 0, .i .i64 0, .sl 0 false []]⟩,
           ⟨none, none, .store 8 (.t 8) (.t 40)⟩] false [])
          (.keep [4, 5, 6, 8, 35, 36, 37] (.seq
          (.seq
           (.region [⟨some 41, none, .load 8 true (.t 8)⟩,
            ⟨some 42, none, .call 186 [.t 41]⟩,
            ⟨some 43, none, .un .not (.t 42)⟩] false [])
           (.keep [4, 5, 6, 8, 35, 36, 37, 43] (.cond (.t 43)
           (.keep [] (.seq
            (.region [⟨some 2, none, .mov (.c (.d (.sl 0 false [])))⟩,
             ⟨some 3, none, .mov (.c (.d (.i .i64 92)))⟩] false [])
            (.ret)))
           (.skip))))
          (.keep [4, 5, 6, 8, 35, 36, 37] (.seq
           (.region [⟨some 45, none, .mov (.t 4)⟩,
            ⟨some 46, none, .faddr 0 (.t 8)⟩,
            ⟨some 47, none, .load 1 false (.t 46)⟩,
            ⟨some 48, none, .call 140 [.t 45, .t 47]⟩,
            ⟨some 44, none, .mov (.t 48)⟩,
            ⟨some 49, none, .extract 0 (.t 44)⟩,
            ⟨some 50, none, .extract 1 (.t 44)⟩,
            ⟨some 9, none, .mov (.t 49)⟩,
            ⟨some 10, none, .mov (.t 50)⟩] false [])
           (.keep [4, 5, 6, 9, 10, 35, 36, 37] (.seq
           (.seq
            (.region [⟨some 51, none, .mov (.t 10)⟩,
             ⟨some 52, none, .bin .neq (.t 51) (.c (.d (.i .i64 0)))⟩] false [])
            (.keep [4, 5, 6, 9, 10, 35, 36, 37, 52] (.cond (.t 52)
            (.keep [10] (.seq
             (.region [⟨some 53, none, .mov (.t 10)⟩,
              ⟨some 2, none, .mov (.c (.d (.sl 0 false [])))⟩,
              ⟨some 3, none, .mov (.t 53)⟩] false [])
             (.ret)))
            (.skip))))
           (.keep [4, 5, 6, 9, 35, 36, 37] (.region [⟨some 54, none, .mov (.t 5)⟩,
            ⟨some 55, none, .mov (.t 9)⟩,
            ⟨some 56, none, .lits 1 [.i .i64 0] [(0, 1, .t 55)]⟩,
            ⟨some 57, none, .app 1 8 (.t 54) (.t 56)⟩,
            ⟨some 5, none, .mov (.t 57)⟩] false []))))))))))
         (.keep [4, 5, 6, 35, 36, 37] (.region [⟨some 58, none, .bin .add (.t 37) (.c (.d (.i .i64 1)))⟩,
          ⟨some 37, none, .mov (.t 58)⟩] false []))))))
def F177_elf_Write_b1 : SCode :=
  .seq
          (.region [⟨some 77, none, .bin .lss (.t 76) (.t 75)⟩] false [])
          (.keep [5, 6, 13, 74, 75, 76, 77] (.seq
           (.cond (.t 77)
           (.skip)
           (.exit 2))
           (.keep [5, 6, 13, 74, 75, 76] (.seq
           (.block 3 (.seq
            (.region [⟨some 78, none, .iaddr 8 (.t 74) (.t 76)⟩,
             ⟨some 79, none, .load 8 true (.t 78)⟩,
             ⟨some 15, none, .alloc [.s [], .i .i64 0, .i .i64 0, .i .i64 0, .i .i64 0, .i .i64 0, .i .i64 0, .sl 0 false []]⟩,
             ⟨none, none, .store 8 (.t 15) (.t 79)⟩] false [])
            (.keep [5, 6, 13, 15, 74, 75, 76] (.region [⟨some 80, none, .mov (.t 13)⟩,
             ⟨some 81, none, .faddr 7 (.t 15)⟩,
             ⟨some 82, none, .load 1 false (.t 81)⟩,
             ⟨some 83, none, .len false (.t 82)⟩,
             ⟨some 84, none, .bin .add (.t 80) (.t 83)⟩,
             ⟨some 85, none, .call 187 [.t 84]⟩,
             ⟨some 13, none, .mov (.t 85)⟩] false []))))
           (.keep [5, 6, 13, 74, 75, 76] (.region [⟨some 86, none, .bin .add (.t 76) (.c (.d (.i .i64 1)))⟩,
            ⟨some 76, none, .mov (.t 86)⟩] false []))))))
def F177_elf_Write_b2 : SCode :=
  .seq
            (.region [⟨some 97, none, .bin .lss (.t 96) (.t 95)⟩] false [])
            (.keep [5, 16, 17, 94, 95, 96, 97] (.seq
            (.cond (.t 97)
             (.skip)
             (.exit 4))
            (.keep [5, 16, 17, 94, 95, 96] (.seq
             (.block 5 (.seq
              (.region [⟨some 98, none, .mov (.t 96)⟩,
               ⟨some 99, none, .iaddr 8 (.t 94) (.t 96)⟩,
               ⟨some 100, none, .load 8 true (.t 99)⟩,
               ⟨some 19, none, .alloc [.s [], .i .i64 0, .i .i64 0, .i .i64 0, .i .i64 0, .i .i64 0, .i .i64 0, .sl 0 false []]⟩,
               ⟨some 18, none, .mov (.t 98)⟩,
               ⟨none, none, .store 8 (.t 19) (.t 100)⟩] false [])
              (.keep [5, 16, 17, 18, 19, 94, 95, 96] (.seq
              (.region [⟨some 101, none, .mov (.t 17)⟩,
               ⟨some 102, none, .load 8 true (.t 19)⟩,
               ⟨some 103, none, .mov (.t 5)⟩,
               ⟨some 104, none, .mov (.t 18)⟩,
               ⟨some 105, none, .iaddr 1 (.t 103) (.t 104)⟩,
               ⟨some 106, none, .load 1 false (.t 105)⟩,
               ⟨some 107, none, .mov (.t 16)⟩,
               ⟨some 108, none, .len false (.t 107)⟩,
               ⟨some 109, none, .call 190 [.t 102, .t 106, .t 108]⟩,
               ⟨some 110, none, .call 189 [.t 109]⟩,
               ⟨some 111, none, .app 1 1 (.t 101) (.t 110)⟩,
               ⟨some 17, none, .mov (.t 111)⟩] true [0, 0, 0, 0, 12, 28, 0, 64, 254, 510, 1023, 2047])
              (.keep [5, 16, 17, 19, 94, 95, 96] (.seq
               (.region [⟨some 112, none, .mov (.t 16)⟩,
                ⟨some 113, none, .faddr 7 (.t 19)⟩,
                ⟨some 114, none, .load 1 false (.t 113)⟩,
                ⟨some 115, none, .app 1 1 (.t 112) (.t 114)⟩,
                ⟨some 16, none, .mov (.t 115)⟩] false [])
               (.keep [5, 16, 17, 94, 95, 96] (.region [⟨some 116, none, .mov (.t 16)⟩,
                ⟨some 117, none, .mov (.t 16)⟩,
                ⟨some 118, none, .len false (.t 117)⟩,
                ⟨some 119, none, .call 187 [.t 118]⟩,
                ⟨some 120, none, .mov (.t 16)⟩,
                ⟨some 121, none, .len false (.t 120)⟩,
                ⟨some 122, none, .bin .sub (.t 119) (.t 121)⟩,
                ⟨some 123, none, .appZ 1 1 [.i .u8 0] (.t 116) (.t 122)⟩,
                ⟨some 16, none, .mov (.t 123)⟩] false []))))))))
             (.keep [5, 16, 17, 94, 95, 96] (.region [⟨some 124, none, .bin .add (.t 96) (.c (.d (.i .i64 1)))⟩,
              ⟨some 96, none, .mov (.t 124)⟩] false []))))))
/-- spindle/elf.Write -/
def F177_elf_Write : SFn := ⟨1, false, false, [.tmp 2, .tmp 3],
  .seq
   (.region [⟨some 2, none, .mov (.c (.d (.sl 0 false [])))⟩,
    ⟨some 3, none, .mov (.c (.d (.i .i64 0)))⟩] false [])
   (.keep [0] (.seq
   (.seq
    (.region [⟨some 20, none, .mov (.t 0)⟩,
     ⟨some 21, none, .len false (.t 20)⟩,
     ⟨some 22, none, .bin .gtr (.t 21) (.c (.d (.i .i64 16)))⟩] false [])
    (.keep [0, 22] (.cond (.t 22)
    (.keep [] (.seq
     (.region [⟨some 2, none, .mov (.c (.d (.sl 0 false [])))⟩,
      ⟨some 3, none, .mov (.c (.d (.i .i64 92)))⟩] false [])
     (.ret)))
    (.skip))))
   (.keep [0] (.seq
    (.region [⟨some 23, none, .call 139 []⟩,
     ⟨some 4, none, .mov (.t 23)⟩] false [])
    (.keep [0, 4] (.seq
    (.region [⟨some 24, none, .mov (.t 0)⟩,
     ⟨some 25, none, .len false (.t 24)⟩,
     ⟨some 26, none, .bin .add (.t 25) (.c (.d (.i .i64 1)))⟩,
     ⟨some 27, none, .mkO 8 1 [.i .i64 0] (.c (.d (.i .i64 0))) (.t 26)⟩,
     ⟨some 5, none, .mov (.t 27)⟩] false [])
    (.keep [0, 4, 5] (.seq
     (.region [⟨some 28, none, .litsR 0 [.s [], .i .i64 0, .i .i64 0, .i .i64 0, .i .i64 0, .i .i64 0, .i .i64 0, .sl 0 false []] []⟩,
      ⟨some 29, none, .mov (.t 0)⟩,
      ⟨some 30, none, .appR 8 88 [.s [], .i .i64 0, .i .i64 0, .i .i64 0, .i .i64 0, .i .i64 0, .i .i64 0, .sl 0 false []] (.t 28) (.t 29)⟩,
      ⟨some 6, none, .mov (.t 30)⟩] false [])
     (.keep [4, 5, 6] (.seq
     (.region [⟨some 31, none, .mov (.t 6)⟩,
      ⟨some 32, none, .build [.s [], .i .i64 0, .i .i64 0, .i .i64 0, .i .i64 0, .i .i64 0, .i .i64 0, .sl 0 false []] [(0, 1, .c (.d (.s [46, 115, 104, 115, 116, 114, 116, 97, 98]))), (1, 1, .c (.d (.i .i64 3))), (5, 1, .c (.d (.i .i64 1)))]⟩,
      ⟨some 33, none, .lits 1 [.s [], .i .i64 0, .i .i64 0, .i .i64 0, .i .i64 0, .i .i64 0, .i .i64 0, .sl 0 false []] [(0, 8, .t 32)]⟩,
      ⟨some 34, none, .appR 8 88 [.s [], .i .i64 0, .i .i64 0, .i .i64 0, .i .i64 0, .i .i64 0, .i .i64 0, .sl 0 false []] (.t 31) (.t 33)⟩,
      ⟨some 6, none, .mov (.t 34)⟩] false [])
     (.keep [4, 5, 6] (.seq
      (.seq
      (.region [⟨some 35, none, .mov (.t 6)⟩,
       ⟨some 36, none, .len false (.t 35)⟩,
       ⟨some 37, none, .mov (.c (.d (.i .i64 0)))⟩] false [])
      (.keep [4, 5, 6, 35, 36, 37] (.block 0 (.loop [4, 5, 6, 35, 36, 37] false F177_elf_Write_b0))))
      (.keep [4, 5, 6] (.seq
      (.region [⟨some 60, none, .mov (.t 4)⟩,
       ⟨some 61, none, .call 142 [.t 60]⟩,
       ⟨some 59, none, .mov (.t 61)⟩,
       ⟨some 62, none, .extract 0 (.t 59)⟩,
       ⟨some 63, none, .extract 1 (.t 59)⟩,
       ⟨some 11, none, .mov (.t 62)⟩,
       ⟨some 12, none, .mov (.t 63)⟩] false [])
      (.keep [5, 6, 11, 12] (.seq
       (.seq
       (.region [⟨some 64, none, .mov (.t 12)⟩,
        ⟨some 65, none, .bin .neq (.t 64) (.c (.d (.i .i64 0)))⟩] false [])
       (.keep [5, 6, 11, 12, 65] (.cond (.t 65)
        (.keep [12] (.seq
        (.region [⟨some 66, none, .mov (.t 12)⟩,
         ⟨some 2, none, .mov (.c (.d (.sl 0 false [])))⟩,
         ⟨some 3, none, .mov (.t 66)⟩] false [])
        (.ret)))
        (.skip))))
       (.keep [5, 6, 11] (.seq
       (.region [⟨some 67, none, .mov (.t 6)⟩,
        ⟨some 68, none, .mov (.t 6)⟩,
        ⟨some 69, none, .len false (.t 68)⟩,
        ⟨some 70, none, .bin .sub (.t 69) (.c (.d (.i .i64 1)))⟩,
        ⟨some 71, none, .mov (.t 11)⟩,
        ⟨some 72, none, .iaddr 8 (.t 67) (.t 70)⟩,
        ⟨some 73, none, .faddr 7 (.t 72)⟩,
        ⟨none, none, .store 1 (.t 73) (.t 71)⟩] false [])
       (.keep [5, 6] (.seq
        (.region [⟨some 13, none, .mov (.c (.d (.i .i64 64)))⟩] false [])
        (.keep [5, 6, 13] (.seq
        (.seq
         (.region [⟨some 74, none, .mov (.t 6)⟩,
          ⟨some 75, none, .len false (.t 74)⟩,
          ⟨some 76, none, .mov (.c (.d (.i .i64 0)))⟩] false [])
         (.keep [5, 6, 13, 74, 75, 76] (.block 2 (.loop [5, 6, 13, 74, 75, 76] true F177_elf_Write_b1))))
        (.keep [5, 6, 13] (.seq
         (.region [⟨some 87, none, .mov (.t 13)⟩,
          ⟨some 88, none, .mov (.t 6)⟩,
          ⟨some 89, none, .len false (.t 88)⟩,
          ⟨some 90, none, .bin .add (.t 89) (.c (.d (.i .i64 1)))⟩,
          ⟨some 91, none, .call 188 [.t 87, .t 90]⟩,
          ⟨some 92, none, .call 202 [.t 91]⟩,
          ⟨some 16, none, .mov (.t 92)⟩] false [])
         (.keep [5, 6, 16] (.seq
         (.region [⟨some 93, none, .mkO 1 1 [.i .u8 0] (.c (.d (.i .i64 64))) (.c (.d (.i .i64 64)))⟩,
          ⟨some 17, none, .mov (.t 93)⟩] false [])
         (.keep [5, 6, 16, 17] (.seq
          (.seq
          (.region [⟨some 94, none, .mov (.t 6)⟩,
           ⟨some 95, none, .len false (.t 94)⟩,
           ⟨some 96, none, .mov (.c (.d (.i .i64 0)))⟩] false [])
          (.keep [5, 16, 17, 94, 95, 96] (.block 4 (.loop [5, 16, 17, 94, 95, 96] true F177_elf_Write_b2))))
          (.keep [16, 17] (.seq
          (.region [⟨some 125, none, .mov (.t 16)⟩,
           ⟨some 126, none, .mov (.t 17)⟩,
           ⟨some 127, none, .app 1 1 (.t 125) (.t 126)⟩,
           ⟨some 2, none, .mov (.t 127)⟩,
           ⟨some 3, none, .mov (.c (.d (.i .i64 0)))⟩] false [])
          (.ret)))))))))))))))))))))))))))))))⟩

def F178_elf_Read_b0 : SCode :=
  .seq
         (.seq
          (.region [⟨some 45, none, .load 1 false (.t 12)⟩,
           ⟨some 46, none, .load 1 false (.t 5)⟩,
           ⟨some 47, none, .nilChk (.t 46)⟩,
           ⟨some 48, none, .faddr 2 (.t 47)⟩,
           ⟨some 49, none, .load 1 false (.t 48)⟩,
           ⟨some 50, none, .len false (.t 49)⟩,
           ⟨some 51, none, .bin .sub (.t 50) (.c (.d (.i .i64 1)))⟩,
           ⟨some 52, none, .bin .lss (.t 45) (.t 51)⟩] true [0, 0, 2, 6, 14, 30, 62, 127])
          (.keep [5, 9, 11, 12, 52] (.cond (.t 52)
          (.skip)
          (.exit 0))))
         (.keep [5, 9, 11, 12] (.seq
          (.block 1 (.seq
           (.region [⟨some 55, none, .mkFn 196 [.t 5, .t 12]⟩,
            ⟨some 13, none, .mov (.t 55)⟩] false [])
           (.keep [5, 9, 11, 12, 13] (.region [⟨some 56, none, .mov (.t 11)⟩,
            ⟨some 57, none, .mov (.t 9)⟩,
            ⟨some 58, none, .load 1 false (.t 12)⟩,
            ⟨some 59, none, .bin .sub (.t 58) (.c (.d (.i .i64 1)))⟩,
            ⟨some 60, none, .iaddr 1 (.t 57) (.t 59)⟩,
            ⟨some 61, none, .load 1 false (.t 60)⟩,
            ⟨some 62, none, .mov (.t 13)⟩,
            ⟨some 63, none, .callC [196] (.t 62) [.c (.d (.i .i64 1))]⟩,
            ⟨some 64, none, .mov (.t 13)⟩,
            ⟨some 65, none, .callC [196] (.t 64) [.c (.d (.i .i64 2))]⟩,
            ⟨some 66, none, .mov (.t 13)⟩,
            ⟨some 67, none, .callC [196] (.t 66) [.c (.d (.i .i64 6))]⟩,
            ⟨some 68, none, .mov (.t 13)⟩,
            ⟨some 69, none, .callC [196] (.t 68) [.c (.d (.i .i64 7))]⟩,
            ⟨some 70, none, .mov (.t 13)⟩,
            ⟨some 71, none, .callC [196] (.t 70) [.c (.d (.i .i64 8))]⟩,
            ⟨some 72, none, .mov (.t 13)⟩,
            ⟨some 73, none, .callC [196] (.t 72) [.c (.d (.i .i64 9))]⟩,
            ⟨some 74, none, .load 1 false (.t 5)⟩,
            ⟨some 75, none, .load 1 false (.t 12)⟩,
            ⟨some 76, none, .call 197 [.t 74, .t 75]⟩,
            ⟨some 77, none, .call 198 [.t 76]⟩,
            ⟨some 78, none, .build [.s [], .i .i64 0, .i .i64 0, .i .i64 0, .i .i64 0, .i .i64 0, .i .i64 0, .sl 0 false []] [(0, 1, .t 61), (1, 1, .t 63), (2, 1, .t 65), (3, 1, .t 67), (4, 1, .t 69), (5, 1, .t 71), (6, 1, .t 73), (7, 1, .t 77)]⟩,
            ⟨some 79, none, .lits 1 [.s [], .i .i64 0, .i .i64 0, .i .i64 0, .i .i64 0, .i .i64 0, .i .i64 0, .sl 0 false []] [(0, 8, .t 78)]⟩,
            ⟨some 80, none, .app 8 88 (.t 56) (.t 79)⟩,
            ⟨some 11, none, .mov (.t 80)⟩] true [0, 0, 0, 4, 14, 30, 0, 64, 0, 448, 0, 1984, 0, 8128, 0, 32704, 0, 131008, 0, 0, 1048512, 2097088, 4194302, 8388606, 16777215, 33554431]))))
          (.keep [5, 9, 11, 12] (.seq
          (.seq
           (.region [⟨some 81, none, .load 1 false (.t 12)⟩] false [])
           (.keep [5, 9, 11, 81] (.region [⟨some 12, none, .alloc [.i .i64 0]⟩,
            ⟨none, none, .store 1 (.t 12) (.t 81)⟩] false [])))
          (.keep [5, 9, 11, 12] (.region [⟨some 53, none, .load 1 false (.t 12)⟩,
           ⟨some 54, none, .bin .add (.t 53) (.c (.d (.i .i64 1)))⟩,
           ⟨none, none, .store 1 (.t 12) (.t 54)⟩] false []))))))
/-- spindle/elf.Read -/
def F178_elf_Read : SFn := ⟨1, true, true, [.tmp 2, .tmp 3, .tmp 4],
  .seq
   (.region [⟨some 2, none, .mov (.c (.d (.sl 0 false [])))⟩,
    ⟨some 3, none, .mov (.c (.d (.i .i64 0)))⟩,
    ⟨some 4, none, .mov (.c (.d (.i .i64 0)))⟩] false [])
   (.keep [0] (.seq
   (.seq
    (.region [⟨some 14, none, .mov (.t 0)⟩,
     ⟨some 15, none, .len false (.t 14)⟩,
     ⟨some 16, none, .bin .lss (.t 15) (.c (.d (.i .i64 64)))⟩] false [])
    (.keep [0, 16] (.cond (.t 16)
    (.keep [0] (.seq
     (.region [⟨some 17, none, .mov (.t 0)⟩,
      ⟨some 18, none, .len false (.t 17)⟩,
      ⟨some 2, none, .mov (.c (.d (.sl 0 false [])))⟩,
      ⟨some 3, none, .mov (.t 18)⟩,
      ⟨some 4, none, .mov (.c (.d (.i .i64 90)))⟩] false [])
     (.ret)))
    (.skip))))
   (.keep [0] (.seq
    (.region [⟨some 19, none, .mov (.t 0)⟩,
     ⟨some 20, none, .build [.sl 0 false [], .i .i64 0, .sl 0 false [], .sl 0 false []] [(0, 1, .t 19)]⟩,
     ⟨some 21, none, .box (.t 20)⟩,
     ⟨some 5, none, .alloc [.np]⟩,
     ⟨none, none, .store 1 (.t 5) (.t 21)⟩] false [])
    (.keep [5] (.seq
    (.seq
     (.region [⟨some 22, none, .load 1 false (.t 5)⟩,
      ⟨some 23, none, .call 191 [.t 22]⟩,
      ⟨some 6, none, .mov (.t 23)⟩] false [])
     (.keep [5, 6] (.seq
     (.region [⟨some 24, none, .mov (.t 6)⟩,
      ⟨some 25, none, .bin .geq (.t 24) (.c (.d (.i .i64 0)))⟩] false [])
     (.keep [5, 6, 25] (.cond (.t 25)
      (.keep [6] (.seq
      (.region [⟨some 26, none, .mov (.t 6)⟩,
       ⟨some 2, none, .mov (.c (.d (.sl 0 false [])))⟩,
       ⟨some 3, none, .mov (.t 26)⟩,
       ⟨some 4, none, .mov (.c (.d (.i .i64 91)))⟩] false [])
      (.ret)))
      (.skip))))))
    (.keep [5] (.seq
     (.seq
     (.region [⟨some 27, none, .load 1 false (.t 5)⟩,
      ⟨some 28, none, .call 192 [.t 27]⟩,
      ⟨some 7, none, .mov (.t 28)⟩] false [])
     (.keep [5, 7] (.seq
      (.region [⟨some 29, none, .mov (.t 7)⟩,
       ⟨some 30, none, .bin .geq (.t 29) (.c (.d (.i .i64 0)))⟩] false [])
      (.keep [5, 7, 30] (.cond (.t 30)
      (.keep [7] (.seq
       (.region [⟨some 31, none, .mov (.t 7)⟩,
        ⟨some 2, none, .mov (.c (.d (.sl 0 false [])))⟩,
        ⟨some 3, none, .mov (.t 31)⟩,
        ⟨some 4, none, .mov (.c (.d (.i .i64 92)))⟩] false [])
       (.ret)))
      (.skip))))))
     (.keep [5] (.seq
     (.seq
      (.region [⟨some 32, none, .load 1 false (.t 5)⟩,
       ⟨some 33, none, .call 193 [.t 32]⟩,
       ⟨some 8, none, .mov (.t 33)⟩] false [])
      (.keep [5, 8] (.seq
      (.region [⟨some 34, none, .mov (.t 8)⟩,
       ⟨some 35, none, .bin .geq (.t 34) (.c (.d (.i .i64 0)))⟩] false [])
      (.keep [5, 8, 35] (.cond (.t 35)
       (.keep [8] (.seq
       (.region [⟨some 36, none, .mov (.t 8)⟩,
        ⟨some 2, none, .mov (.c (.d (.sl 0 false [])))⟩,
        ⟨some 3, none, .mov (.t 36)⟩,
        ⟨some 4, none, .mov (.c (.d (.i .i64 93)))⟩] false [])
       (.ret)))
       (.skip))))))
     (.keep [5] (.seq
      (.region [⟨some 38, none, .load 1 false (.t 5)⟩,
       ⟨some 39, none, .call 194 [.t 38]⟩,
       ⟨some 37, none, .mov (.t 39)⟩,
       ⟨some 40, none, .extract 0 (.t 37)⟩,
       ⟨some 41, none, .extract 1 (.t 37)⟩,
       ⟨some 9, none, .mov (.t 40)⟩,
       ⟨some 10, none, .mov (.t 41)⟩] false [])
      (.keep [5, 9, 10] (.seq
      (.seq
       (.region [⟨some 42, none, .mov (.t 10)⟩,
        ⟨some 43, none, .bin .geq (.t 42) (.c (.d (.i .i64 0)))⟩] false [])
       (.keep [5, 9, 10, 43] (.cond (.t 43)
       (.keep [10] (.seq
        (.region [⟨some 44, none, .mov (.t 10)⟩,
         ⟨some 2, none, .mov (.c (.d (.sl 0 false [])))⟩,
         ⟨some 3, none, .mov (.t 44)⟩,
         ⟨some 4, none, .mov (.c (.d (.i .i64 92)))⟩] false [])
        (.ret)))
       (.skip))))
      (.keep [5, 9] (.seq
       (.region [⟨some 11, none, .tok 8 (.c (.d (.sl 0 false [])))⟩] false [])
       (.keep [5, 9, 11] (.seq
       (.seq
        (.region [⟨some 12, none, .alloc [.i .i64 0]⟩,
         ⟨none, none, .store 1 (.t 12) (.c (.d (.i .i64 1)))⟩] false [])
        (.keep [5, 9, 11, 12] (.block 0 (.loop [5, 9, 11, 12] false F178_elf_Read_b0))))
       (.keep [11] (.seq
        (.region [⟨some 82, none, .mov (.t 11)⟩,
         ⟨some 2, none, .mov (.t 82)⟩,
         ⟨some 3, none, .mov (.c (.d (.i .i64 0)))⟩,
         ⟨some 4, none, .mov (.c (.d (.i .i64 0)))⟩] false [])
        (.ret)))))))))))))))))))))⟩

/-- spindle/elf.may -/
def F186_elf_may : SFn := ⟨1, true, true, [.tmp 2],
  .seq
   (.region [⟨some 1, none, .box (.t 0)⟩,
    ⟨some 2, none, .mov (.c (.d (.b false)))⟩] false [])
   (.keep [1] (.seq
   (.region [⟨some 4, none, .faddr 0 (.t 1)⟩,
    ⟨some 5, none, .load 1 false (.t 4)⟩,
    ⟨some 6, none, .bin .neq (.t 5) (.c (.d (.s [])))⟩,
    ⟨some 7, none, .mov (.t 6)⟩,
    ⟨some 8, (some (3, true)), .faddr 0 (.t 1)⟩,
    ⟨some 9, (some (3, true)), .load 1 false (.t 8)⟩,
    ⟨some 10, (some (3, true)), .len true (.t 9)⟩,
    ⟨some 11, (some (3, true)), .bin .leq (.t 10) (.c (.d (.i .i64 64)))⟩,
    ⟨some 12, none, .pick (.t 7) (.t 11) (.c (.d (.b false)))⟩,
    ⟨some 13, none, .mov (.t 12)⟩,
    ⟨some 14, (some (9, true)), .faddr 0 (.t 1)⟩,
    ⟨some 15, (some (9, true)), .load 1 false (.t 14)⟩,
    ⟨some 16, (some (9, true)), .call 150 [.t 15, .c (.d (.i .u8 0))]⟩,
    ⟨some 17, (some (9, true)), .bin .lss (.t 16) (.c (.d (.i .i64 0)))⟩,
    ⟨some 18, none, .pick (.t 13) (.t 17) (.c (.d (.b false)))⟩,
    ⟨some 3, none, .mov (.t 18)⟩] false [])
   (.keep [1, 3] (.seq
    (.region [⟨some 19, none, .mov (.t 3)⟩,
     ⟨some 20, none, .mov (.t 19)⟩,
     ⟨some 21, (some (1, true)), .faddr 1 (.t 1)⟩,
     ⟨some 22, (some (1, true)), .load 1 false (.t 21)⟩,
     ⟨some 23, (some (1, true)), .call 195 [.t 22]⟩,
     ⟨some 24, none, .pick (.t 20) (.t 23) (.c (.d (.b false)))⟩,
     ⟨some 25, none, .mov (.t 24)⟩,
     ⟨some 26, (some (6, true)), .faddr 3 (.t 1)⟩,
     ⟨some 27, (some (6, true)), .load 1 false (.t 26)⟩,
     ⟨some 28, (some (6, true)), .call 195 [.t 27]⟩,
     ⟨some 29, none, .pick (.t 25) (.t 28) (.c (.d (.b false)))⟩,
     ⟨some 30, none, .mov (.t 29)⟩,
     ⟨some 31, (some (11, true)), .faddr 4 (.t 1)⟩,
     ⟨some 32, (some (11, true)), .load 1 false (.t 31)⟩,
     ⟨some 33, (some (11, true)), .call 195 [.t 32]⟩,
     ⟨some 34, none, .pick (.t 30) (.t 33) (.c (.d (.b false)))⟩,
     ⟨some 35, none, .mov (.t 34)⟩,
     ⟨some 36, (some (16, true)), .faddr 2 (.t 1)⟩,
     ⟨some 37, (some (16, true)), .load 1 false (.t 36)⟩,
     ⟨some 38, (some (16, true)), .bin .geq (.t 37) (.c (.d (.i .i64 0)))⟩,
     ⟨some 39, none, .pick (.t 35) (.t 38) (.c (.d (.b false)))⟩,
     ⟨some 40, none, .mov (.t 39)⟩,
     ⟨some 41, (some (21, true)), .faddr 5 (.t 1)⟩,
     ⟨some 42, (some (21, true)), .load 1 false (.t 41)⟩,
     ⟨some 43, (some (21, true)), .bin .geq (.t 42) (.c (.d (.i .i64 0)))⟩,
     ⟨some 44, none, .pick (.t 40) (.t 43) (.c (.d (.b false)))⟩,
     ⟨some 45, none, .mov (.t 44)⟩,
     ⟨some 46, (some (26, true)), .faddr 6 (.t 1)⟩,
     ⟨some 47, (some (26, true)), .load 1 false (.t 46)⟩,
     ⟨some 48, (some (26, true)), .bin .geq (.t 47) (.c (.d (.i .i64 0)))⟩,
     ⟨some 49, none, .pick (.t 45) (.t 48) (.c (.d (.b false)))⟩,
     ⟨some 2, none, .mov (.t 49)⟩] false [])
    (.ret)))))⟩

/-- spindle/elf.round -/
def F187_elf_round : SFn := ⟨1, true, true, [.tmp 2],
  .seq
   (.region [⟨some 2, none, .mov (.c (.d (.i .i64 0)))⟩] false [])
   (.keep [0] (.seq
   (.region [⟨some 3, none, .mov (.t 0)⟩,
    ⟨some 4, none, .bin .add (.t 3) (.c (.d (.i .i64 7)))⟩,
    ⟨some 5, none, .bin .andNot (.t 4) (.c (.d (.i .i64 7)))⟩,
    ⟨some 2, none, .mov (.t 5)⟩] false [])
   (.ret)))⟩

/-- spindle/elf.header -/
def F188_elf_header : SFn := ⟨2, true, true, [.tmp 4],
  .seq
   (.region [⟨some 4, none, .mov (.c (.d (.sl 0 false [])))⟩] false [])
   (.keep [0, 1] (.seq
   (.region [⟨some 6, none, .build [.i .i64 0, .i .u64 0] [(0, 1, .c (.d (.i .i64 4))), (1, 1, .c (.d (.i .u64 1179403647)))]⟩,
    ⟨some 7, none, .build [.i .i64 0, .i .u64 0] [(0, 1, .c (.d (.i .i64 4))), (1, 1, .c (.d (.i .u64 65794)))]⟩,
    ⟨some 8, none, .build [.i .i64 0, .i .u64 0] [(0, 1, .c (.d (.i .i64 8))), (1, 1, .c (.d (.i .u64 0)))]⟩,
    ⟨some 9, none, .litsO 3 [.i .i64 0, .i .u64 0] [(0, 2, .t 6), (2, 2, .t 7), (4, 2, .t 8)]⟩,
    ⟨some 5, none, .mov (.t 9)⟩] false [])
   (.keep [0, 1, 5] (.seq
    (.region [⟨some 10, none, .mov (.t 5)⟩,
     ⟨some 11, none, .build [.i .i64 0, .i .u64 0] [(0, 1, .c (.d (.i .i64 2))), (1, 1, .c (.d (.i .u64 1)))]⟩,
     ⟨some 12, none, .build [.i .i64 0, .i .u64 0] [(0, 1, .c (.d (.i .i64 2))), (1, 1, .c (.d (.i .u64 247)))]⟩,
     ⟨some 13, none, .build [.i .i64 0, .i .u64 0] [(0, 1, .c (.d (.i .i64 4))), (1, 1, .c (.d (.i .u64 1)))]⟩,
     ⟨some 14, none, .build [.i .i64 0, .i .u64 0] [(0, 1, .c (.d (.i .i64 8))), (1, 1, .c (.d (.i .u64 0)))]⟩,
     ⟨some 15, none, .build [.i .i64 0, .i .u64 0] [(0, 1, .c (.d (.i .i64 8))), (1, 1, .c (.d (.i .u64 0)))]⟩,
     ⟨some 16, none, .mov (.t 0)⟩,
     ⟨some 17, none, .conv .u64 (.t 16)⟩,
     ⟨some 18, none, .build [.i .i64 0, .i .u64 0] [(0, 1, .c (.d (.i .i64 8))), (1, 1, .t 17)]⟩,
     ⟨some 19, none, .build [.i .i64 0, .i .u64 0] [(0, 1, .c (.d (.i .i64 4))), (1, 1, .c (.d (.i .u64 0)))]⟩,
     ⟨some 20, none, .lits 7 [.i .i64 0, .i .u64 0] [(0, 2, .t 11), (2, 2, .t 12), (4, 2, .t 13), (6, 2, .t 14), (8, 2, .t 15), (10, 2, .t 18), (12, 2, .t 19)]⟩,
     ⟨some 21, none, .app 2 16 (.t 10) (.t 20)⟩,
     ⟨some 5, none, .mov (.t 21)⟩] false [])
    (.keep [1, 5] (.seq
    (.region [⟨some 22, none, .mov (.t 5)⟩,
     ⟨some 23, none, .build [.i .i64 0, .i .u64 0] [(0, 1, .c (.d (.i .i64 2))), (1, 1, .c (.d (.i .u64 64)))]⟩,
     ⟨some 24, none, .build [.i .i64 0, .i .u64 0] [(0, 1, .c (.d (.i .i64 2))), (1, 1, .c (.d (.i .u64 0)))]⟩,
     ⟨some 25, none, .build [.i .i64 0, .i .u64 0] [(0, 1, .c (.d (.i .i64 2))), (1, 1, .c (.d (.i .u64 0)))]⟩,
     ⟨some 26, none, .build [.i .i64 0, .i .u64 0] [(0, 1, .c (.d (.i .i64 2))), (1, 1, .c (.d (.i .u64 64)))]⟩,
     ⟨some 27, none, .mov (.t 1)⟩,
     ⟨some 28, none, .conv .u64 (.t 27)⟩,
     ⟨some 29, none, .build [.i .i64 0, .i .u64 0] [(0, 1, .c (.d (.i .i64 2))), (1, 1, .t 28)]⟩,
     ⟨some 30, none, .mov (.t 1)⟩,
     ⟨some 31, none, .bin .sub (.t 30) (.c (.d (.i .i64 1)))⟩,
     ⟨some 32, none, .conv .u64 (.t 31)⟩,
     ⟨some 33, none, .build [.i .i64 0, .i .u64 0] [(0, 1, .c (.d (.i .i64 2))), (1, 1, .t 32)]⟩,
     ⟨some 34, none, .lits 6 [.i .i64 0, .i .u64 0] [(0, 2, .t 23), (2, 2, .t 24), (4, 2, .t 25), (6, 2, .t 26), (8, 2, .t 29), (10, 2, .t 33)]⟩,
     ⟨some 35, none, .app 2 16 (.t 22) (.t 34)⟩,
     ⟨some 4, none, .mov (.t 35)⟩] false [])
    (.ret)))))))⟩

def F189_elf_laid_b1 : SCode :=
  .seq
          (.region [⟨some 16, none, .bin .lss (.t 15) (.t 14)⟩] false [])
          (.keep [3, 5, 7, 8, 9, 14, 15, 16] (.seq
          (.cond (.t 16)
           (.skip)
           (.exit 2))
          (.keep [3, 5, 7, 8, 9, 14, 15] (.seq
           (.block 3 (.seq
            (.region [⟨some 17, none, .mov (.t 15)⟩,
             ⟨some 6, none, .mov (.t 17)⟩] false [])
            (.keep [3, 5, 6, 7, 8, 9, 14, 15] (.region [⟨some 18, none, .mov (.t 3)⟩,
             ⟨some 19, none, .faddr 1 (.t 5)⟩,
             ⟨some 20, none, .load 1 false (.t 19)⟩,
             ⟨some 21, none, .mov (.t 6)⟩,
             ⟨some 22, none, .bin .mul (.c (.d (.i .i64 8))) (.t 21)⟩,
             ⟨some 23, none, .bin .shr (.t 20) (.t 22)⟩,
             ⟨some 24, none, .conv .u8 (.t 23)⟩,
             ⟨some 25, none, .lits 1 [.i .u8 0] [(0, 1, .t 24)]⟩,
             ⟨some 26, none, .app 1 1 (.t 18) (.t 25)⟩,
             ⟨some 3, none, .mov (.t 26)⟩] false []))))
           (.keep [3, 5, 7, 8, 9, 14, 15] (.region [⟨some 27, none, .bin .add (.t 15) (.c (.d (.i .i64 1)))⟩,
            ⟨some 15, none, .mov (.t 27)⟩] false []))))))
def F189_elf_laid_b0 : SCode :=
  .seq
      (.region [⟨some 10, none, .bin .lss (.t 9) (.t 8)⟩] false [])
      (.keep [3, 7, 8, 9, 10] (.seq
      (.cond (.t 10)
       (.skip)
       (.exit 0))
      (.keep [3, 7, 8, 9] (.seq
       (.block 1 (.seq
        (.region [⟨some 11, none, .iaddr 2 (.t 7) (.t 9)⟩,
         ⟨some 12, none, .load 2 true (.t 11)⟩,
         ⟨some 5, none, .alloc [.i .i64 0, .i .u64 0]⟩,
         ⟨none, none, .store 2 (.t 5) (.t 12)⟩] false [])
        (.keep [3, 5, 7, 8, 9] (.seq
        (.region [⟨some 13, none, .faddr 0 (.t 5)⟩,
         ⟨some 14, none, .load 1 false (.t 13)⟩,
         ⟨some 15, none, .mov (.c (.d (.i .i64 0)))⟩] false [])
        (.keep [3, 5, 7, 8, 9, 14, 15] (.block 2 (.loop [3, 5, 7, 8, 9, 14, 15] false F189_elf_laid_b1)))))))
       (.keep [3, 7, 8, 9] (.region [⟨some 28, none, .bin .add (.t 9) (.c (.d (.i .i64 1)))⟩,
        ⟨some 9, none, .mov (.t 28)⟩] false []))))))
/-- spindle/elf.laid -/
def F189_elf_laid : SFn := ⟨1, true, true, [.tmp 2],
  .seq
   (.region [⟨some 2, none, .mov (.c (.d (.sl 0 false [])))⟩] false [])
   (.keep [0] (.seq
   (.region [⟨some 3, none, .tok 1 (.c (.d (.sl 0 false [])))⟩] false [])
   (.keep [0, 3] (.seq
    (.seq
    (.region [⟨some 7, none, .mov (.t 0)⟩,
     ⟨some 8, none, .len false (.t 7)⟩,
     ⟨some 9, none, .mov (.c (.d (.i .i64 0)))⟩] false [])
    (.keep [3, 7, 8, 9] (.block 0 (.loop [3, 7, 8, 9] true F189_elf_laid_b0))))
    (.keep [3] (.seq
    (.region [⟨some 29, none, .mov (.t 3)⟩,
     ⟨some 2, none, .mov (.t 29)⟩] false [])
    (.ret)))))))⟩

/-- spindle/elf.entry -/
def F190_elf_entry : SFn := ⟨3, true, true, [.tmp 6],
  .seq
   (.region [⟨some 3, none, .box (.t 0)⟩,
    ⟨some 6, none, .mov (.c (.d (.sl 0 false [])))⟩] false [])
   (.keep [1, 2, 3] (.seq
   (.region [⟨some 8, none, .mov (.t 1)⟩,
    ⟨some 9, none, .conv .u64 (.t 8)⟩,
    ⟨some 10, none, .build [.i .i64 0, .i .u64 0] [(0, 1, .c (.d (.i .i64 4))), (1, 1, .t 9)]⟩,
    ⟨some 11, none, .faddr 1 (.t 3)⟩,
    ⟨some 12, none, .load 1 false (.t 11)⟩,
    ⟨some 13, none, .conv .u64 (.t 12)⟩,
    ⟨some 14, none, .build [.i .i64 0, .i .u64 0] [(0, 1, .c (.d (.i .i64 4))), (1, 1, .t 13)]⟩,
    ⟨some 15, none, .faddr 2 (.t 3)⟩,
    ⟨some 16, none, .load 1 false (.t 15)⟩,
    ⟨some 17, none, .conv .u64 (.t 16)⟩,
    ⟨some 18, none, .build [.i .i64 0, .i .u64 0] [(0, 1, .c (.d (.i .i64 8))), (1, 1, .t 17)]⟩,
    ⟨some 19, none, .build [.i .i64 0, .i .u64 0] [(0, 1, .c (.d (.i .i64 8))), (1, 1, .c (.d (.i .u64 0)))]⟩,
    ⟨some 20, none, .mov (.t 2)⟩,
    ⟨some 21, none, .conv .u64 (.t 20)⟩,
    ⟨some 22, none, .build [.i .i64 0, .i .u64 0] [(0, 1, .c (.d (.i .i64 8))), (1, 1, .t 21)]⟩,
    ⟨some 23, none, .faddr 7 (.t 3)⟩,
    ⟨some 24, none, .load 1 false (.t 23)⟩,
    ⟨some 25, none, .len false (.t 24)⟩,
    ⟨some 26, none, .conv .u64 (.t 25)⟩,
    ⟨some 27, none, .build [.i .i64 0, .i .u64 0] [(0, 1, .c (.d (.i .i64 8))), (1, 1, .t 26)]⟩,
    ⟨some 28, none, .litsO 6 [.i .i64 0, .i .u64 0] [(0, 2, .t 10), (2, 2, .t 14), (4, 2, .t 18), (6, 2, .t 19), (8, 2, .t 22), (10, 2, .t 27)]⟩,
    ⟨some 7, none, .mov (.t 28)⟩] false [])
   (.keep [3, 7] (.seq
    (.region [⟨some 29, none, .mov (.t 7)⟩,
     ⟨some 30, none, .faddr 3 (.t 3)⟩,
     ⟨some 31, none, .load 1 false (.t 30)⟩,
     ⟨some 32, none, .conv .u64 (.t 31)⟩,
     ⟨some 33, none, .build [.i .i64 0, .i .u64 0] [(0, 1, .c (.d (.i .i64 4))), (1, 1, .t 32)]⟩,
     ⟨some 34, none, .faddr 4 (.t 3)⟩,
     ⟨some 35, none, .load 1 false (.t 34)⟩,
     ⟨some 36, none, .conv .u64 (.t 35)⟩,
     ⟨some 37, none, .build [.i .i64 0, .i .u64 0] [(0, 1, .c (.d (.i .i64 4))), (1, 1, .t 36)]⟩,
     ⟨some 38, none, .faddr 5 (.t 3)⟩,
     ⟨some 39, none, .load 1 false (.t 38)⟩,
     ⟨some 40, none, .conv .u64 (.t 39)⟩,
     ⟨some 41, none, .build [.i .i64 0, .i .u64 0] [(0, 1, .c (.d (.i .i64 8))), (1, 1, .t 40)]⟩,
     ⟨some 42, none, .faddr 6 (.t 3)⟩,
     ⟨some 43, none, .load 1 false (.t 42)⟩,
     ⟨some 44, none, .conv .u64 (.t 43)⟩,
     ⟨some 45, none, .build [.i .i64 0, .i .u64 0] [(0, 1, .c (.d (.i .i64 8))), (1, 1, .t 44)]⟩,
     ⟨some 46, none, .lits 4 [.i .i64 0, .i .u64 0] [(0, 2, .t 33), (2, 2, .t 37), (4, 2, .t 41), (6, 2, .t 45)]⟩,
     ⟨some 47, none, .app 2 16 (.t 29) (.t 46)⟩,
     ⟨some 6, none, .mov (.t 47)⟩] false [])
    (.ret)))))⟩

def F191_elf_file_head_b0 : SCode :=
  .seq
      (.region [⟨some 20, none, .bin .lss (.t 19) (.t 18)⟩] false [])
      (.keep [0, 3, 4, 5, 17, 18, 19, 20] (.seq
      (.cond (.t 20)
       (.skip)
       (.exit 0))
      (.keep [0, 3, 4, 5, 17, 18, 19] (.seq
       (.block 1 (.seq
        (.region [⟨some 21, none, .mov (.t 19)⟩,
         ⟨some 22, none, .iaddr 2 (.t 17) (.t 19)⟩,
         ⟨some 23, none, .load 2 true (.t 22)⟩,
         ⟨some 7, none, .alloc [.i .i64 0, .i .u64 0]⟩,
         ⟨some 6, none, .mov (.t 21)⟩,
         ⟨none, none, .store 2 (.t 7) (.t 23)⟩] false [])
        (.keep [0, 3, 4, 5, 6, 7, 17, 18, 19] (.seq
        (.region [⟨some 24, none, .mov (.t 6)⟩] false [])
        (.keep [0, 3, 4, 5, 7, 17, 18, 19, 24] (.block 2 (.seq
         (.region [⟨some 26, none, .bin .eql (.t 24) (.c (.d (.i .i64 8)))⟩,
          ⟨some 25, none, .mov (.t 26)⟩] false [])
         (.keep [0, 3, 4, 5, 7, 17, 18, 19, 24, 25] (.cond (.t 25)
          (.keep [0, 3, 4, 7, 17, 18, 19] (.region [⟨some 27, none, .faddr 1 (.t 7)⟩,
           ⟨some 28, none, .load 1 false (.t 27)⟩,
           ⟨some 5, none, .mov (.t 28)⟩] false []))
          (.keep [0, 3, 4, 5, 7, 17, 18, 19, 24] (.seq
          (.region [⟨some 30, none, .bin .eql (.t 24) (.c (.d (.i .i64 14)))⟩,
           ⟨some 29, none, .mov (.t 30)⟩] false [])
          (.keep [0, 3, 4, 5, 7, 17, 18, 19, 24, 29] (.cond (.t 29)
           (.keep [0, 4, 5, 7, 17, 18, 19] (.region [⟨some 31, none, .faddr 1 (.t 7)⟩,
            ⟨some 32, none, .load 1 false (.t 31)⟩,
            ⟨some 3, none, .mov (.t 32)⟩] false []))
           (.keep [0, 3, 4, 5, 7, 17, 18, 19, 24] (.seq
           (.region [⟨some 34, none, .bin .eql (.t 24) (.c (.d (.i .i64 15)))⟩,
            ⟨some 33, none, .mov (.t 34)⟩] false [])
           (.keep [0, 3, 4, 5, 7, 17, 18, 19, 33] (.cond (.t 33)
            (.keep [0, 3, 5, 7, 17, 18, 19] (.region [⟨some 35, none, .faddr 1 (.t 7)⟩,
             ⟨some 36, none, .load 1 false (.t 35)⟩,
             ⟨some 4, none, .mov (.t 36)⟩] false []))
            (.skip))))))))))))))))))
       (.keep [0, 3, 4, 5, 17, 18, 19] (.region [⟨some 37, none, .bin .add (.t 19) (.c (.d (.i .i64 1)))⟩,
        ⟨some 19, none, .mov (.t 37)⟩] false []))))))
def F191_elf_file_head_b1 : SCode :=
  .seq
       (.region [⟨some 50, none, .bin .lss (.t 49) (.c (.d (.i .i64 64)))⟩] false [])
       (.keep [0, 3, 4, 5, 8, 9, 49, 50] (.seq
        (.cond (.t 50)
        (.skip)
        (.exit 3))
        (.keep [0, 3, 4, 5, 8, 9, 49] (.seq
        (.block 4 (.seq
         (.region [⟨some 51, none, .mov (.t 49)⟩,
          ⟨some 10, none, .mov (.t 51)⟩] false [])
         (.keep [0, 3, 4, 5, 8, 9, 10, 49] (.block 5 (.seq
          (.region [⟨some 53, none, .mov (.t 10)⟩,
           ⟨some 54, none, .bin .eql (.t 53) (.c (.d (.i .i64 40)))⟩,
           ⟨some 55, none, .mov (.t 54)⟩,
           ⟨some 56, (some (2, true)), .mov (.t 9)⟩,
           ⟨some 57, (some (2, true)), .bin .lss (.t 56) (.c (.d (.i .i64 64)))⟩,
           ⟨some 58, (some (2, true)), .mov (.t 57)⟩,
           ⟨some 59, (some (5, false)), .mov (.t 5)⟩,
           ⟨some 60, (some (5, false)), .mov (.t 9)⟩,
           ⟨some 61, (some (5, false)), .conv .u64 (.t 60)⟩,
           ⟨some 62, (some (5, false)), .bin .neq (.t 59) (.t 61)⟩,
           ⟨some 63, (some (2, true)), .pick (.t 58) (.c (.d (.b true))) (.t 62)⟩,
           ⟨some 64, (some (2, true)), .mov (.t 63)⟩,
           ⟨some 65, (some (11, false)), .mov (.t 9)⟩,
           ⟨some 66, (some (11, false)), .bin .rem (.t 65) (.c (.d (.i .i64 8)))⟩,
           ⟨some 67, (some (11, false)), .bin .neq (.t 66) (.c (.d (.i .i64 0)))⟩,
           ⟨some 68, (some (2, true)), .pick (.t 64) (.c (.d (.b true))) (.t 67)⟩,
           ⟨some 69, none, .pick (.t 55) (.t 68) (.c (.d (.b false)))⟩,
           ⟨some 52, none, .mov (.t 69)⟩] false [])
          (.keep [0, 3, 4, 5, 8, 9, 10, 49, 52] (.cond (.t 52)
           (.keep [] (.seq
           (.region [⟨some 2, none, .mov (.c (.d (.i .i64 40)))⟩] false [])
           (.ret)))
           (.keep [0, 3, 4, 5, 8, 9, 10, 49] (.seq
           (.region [⟨some 71, none, .mov (.t 10)⟩,
            ⟨some 72, none, .bin .eql (.t 71) (.c (.d (.i .i64 60)))⟩,
            ⟨some 73, none, .mov (.t 72)⟩,
            ⟨some 74, (some (2, true)), .mov (.t 3)⟩,
            ⟨some 75, (some (2, true)), .bin .lss (.t 74) (.c (.d (.i .u64 2)))⟩,
            ⟨some 76, (some (2, true)), .mov (.t 75)⟩,
            ⟨some 77, (some (5, false)), .mov (.t 3)⟩,
            ⟨some 78, (some (5, false)), .bin .gtr (.t 77) (.c (.d (.i .u64 18)))⟩,
            ⟨some 79, (some (2, true)), .pick (.t 76) (.c (.d (.b true))) (.t 78)⟩,
            ⟨some 80, none, .pick (.t 73) (.t 79) (.c (.d (.b false)))⟩,
            ⟨some 70, none, .mov (.t 80)⟩] false [])
           (.keep [0, 3, 4, 5, 8, 9, 10, 49, 70] (.cond (.t 70)
            (.keep [] (.seq
            (.region [⟨some 2, none, .mov (.c (.d (.i .i64 60)))⟩] false [])
            (.ret)))
            (.keep [0, 3, 4, 5, 8, 9, 10, 49] (.seq
            (.region [⟨some 82, none, .mov (.t 10)⟩,
             ⟨some 83, none, .bin .eql (.t 82) (.c (.d (.i .i64 62)))⟩,
             ⟨some 84, none, .mov (.t 83)⟩,
             ⟨some 85, (some (2, true)), .mov (.t 4)⟩,
             ⟨some 86, (some (2, true)), .mov (.t 3)⟩,
             ⟨some 87, (some (2, true)), .bin .sub (.t 86) (.c (.d (.i .u64 1)))⟩,
             ⟨some 88, (some (2, true)), .bin .neq (.t 85) (.t 87)⟩,
             ⟨some 89, none, .pick (.t 84) (.t 88) (.c (.d (.b false)))⟩,
             ⟨some 81, none, .mov (.t 89)⟩] false [])
            (.keep [0, 3, 4, 5, 8, 9, 10, 49, 81] (.cond (.t 81)
             (.keep [] (.seq
             (.region [⟨some 2, none, .mov (.c (.d (.i .i64 62)))⟩] false [])
             (.ret)))
             (.keep [0, 3, 4, 5, 8, 9, 10, 49] (.seq
             (.region [⟨some 91, none, .mov (.t 10)⟩,
              ⟨some 92, none, .bin .geq (.t 91) (.c (.d (.i .i64 40)))⟩,
              ⟨some 93, none, .mov (.t 92)⟩,
              ⟨some 94, (some (2, true)), .mov (.t 10)⟩,
              ⟨some 95, (some (2, true)), .bin .lss (.t 94) (.c (.d (.i .i64 48)))⟩,
              ⟨some 96, none, .pick (.t 93) (.t 95) (.c (.d (.b false)))⟩,
              ⟨some 97, none, .mov (.t 96)⟩,
              ⟨some 98, (some (6, false)), .mov (.t 10)⟩,
              ⟨some 99, (some (6, false)), .bin .geq (.t 98) (.c (.d (.i .i64 60)))⟩,
              ⟨some 100, none, .pick (.t 97) (.c (.d (.b true))) (.t 99)⟩,
              ⟨some 90, none, .mov (.t 100)⟩] false [])
             (.keep [0, 3, 4, 5, 8, 9, 10, 49, 90] (.cond (.t 90)
              (.skip)
              (.keep [0, 3, 4, 5, 8, 9, 10, 49] (.seq
              (.region [⟨some 102, none, .mov (.t 0)⟩,
               ⟨some 103, none, .nilChk (.t 102)⟩,
               ⟨some 104, none, .faddr 0 (.t 103)⟩,
               ⟨some 105, none, .load 1 false (.t 104)⟩,
               ⟨some 106, none, .mov (.t 10)⟩,
               ⟨some 107, none, .iaddr 1 (.t 105) (.t 106)⟩,
               ⟨some 108, none, .load 1 false (.t 107)⟩,
               ⟨some 109, none, .mov (.t 8)⟩,
               ⟨some 110, none, .mov (.t 10)⟩,
               ⟨some 111, none, .iaddr 1 (.t 109) (.t 110)⟩,
               ⟨some 112, none, .load 1 false (.t 111)⟩,
               ⟨some 113, none, .bin .neq (.t 108) (.t 112)⟩,
               ⟨some 101, none, .mov (.t 113)⟩] true [0, 1, 3, 7, 0, 31, 63, 0, 0, 384, 896, 2047, 4095])
              (.keep [0, 3, 4, 5, 8, 9, 10, 49, 101] (.cond (.t 101)
               (.keep [10] (.seq
               (.region [⟨some 114, none, .mov (.t 10)⟩,
                ⟨some 2, none, .mov (.t 114)⟩] false [])
               (.ret)))
               (.skip))))))))))))))))))))))))
        (.keep [0, 3, 4, 5, 8, 9, 49] (.region [⟨some 115, none, .bin .add (.t 49) (.c (.d (.i .i64 1)))⟩,
         ⟨some 49, none, .mov (.t 115)⟩] false []))))))
/-- (*spindle/elf.file).head -/
def F191_elf_file_head : SFn := ⟨1, false, false, [.tmp 2],
  .seq
   (.region [⟨some 2, none, .mov (.c (.d (.i .i64 0)))⟩] false [])
   (.keep [0] (.seq
   (.region [⟨some 3, none, .mov (.c (.d (.i .u64 0)))⟩,
    ⟨some 4, none, .mov (.c (.d (.i .u64 0)))⟩,
    ⟨some 5, none, .mov (.c (.d (.i .u64 0)))⟩] false [])
   (.keep [0, 3, 4, 5] (.seq
    (.seq
    (.region [⟨some 11, none, .mov (.t 0)⟩,
     ⟨some 12, none, .nilChk (.t 11)⟩,
     ⟨some 13, none, .faddr 0 (.t 12)⟩,
     ⟨some 14, none, .load 1 false (.t 13)⟩,
     ⟨some 15, none, .slc 1 (.t 14) none (some (.c (.d (.i .i64 64)))) none⟩,
     ⟨some 16, none, .call 188 [.c (.d (.i .i64 0)), .c (.d (.i .i64 2))]⟩,
     ⟨some 17, none, .call 199 [.t 15, .t 16]⟩,
     ⟨some 18, none, .len false (.t 17)⟩,
     ⟨some 19, none, .mov (.c (.d (.i .i64 0)))⟩] true [0, 1, 3, 7, 15, 0, 63, 127, 0])
    (.keep [0, 3, 4, 5, 17, 18, 19] (.block 0 (.loop [0, 3, 4, 5, 17, 18, 19] true F191_elf_file_head_b0))))
    (.keep [0, 3, 4, 5] (.seq
    (.region [⟨some 38, none, .call 188 [.c (.d (.i .i64 0)), .c (.d (.i .i64 2))]⟩,
     ⟨some 39, none, .call 189 [.t 38]⟩,
     ⟨some 8, none, .mov (.t 39)⟩] false [])
    (.keep [0, 3, 4, 5, 8] (.seq
     (.region [⟨some 40, none, .mov (.t 0)⟩,
      ⟨some 41, none, .nilChk (.t 40)⟩,
      ⟨some 42, none, .faddr 0 (.t 41)⟩,
      ⟨some 43, none, .load 1 false (.t 42)⟩,
      ⟨some 44, none, .len false (.t 43)⟩,
      ⟨some 45, none, .mov (.t 3)⟩,
      ⟨some 46, none, .conv .i64 (.t 45)⟩,
      ⟨some 47, none, .bin .mul (.c (.d (.i .i64 64))) (.t 46)⟩,
      ⟨some 48, none, .bin .sub (.t 44) (.t 47)⟩,
      ⟨some 9, none, .mov (.t 48)⟩] false [])
     (.keep [0, 3, 4, 5, 8, 9] (.seq
     (.seq
      (.region [⟨some 49, none, .mov (.c (.d (.i .i64 0)))⟩] false [])
      (.keep [0, 3, 4, 5, 8, 9, 49] (.block 3 (.loop [0, 3, 4, 5, 8, 9, 49] false F191_elf_file_head_b1))))
     (.keep [0, 9] (.seq
      (.region [⟨some 116, none, .mov (.t 0)⟩,
       ⟨some 117, none, .mov (.t 9)⟩,
       ⟨some 118, none, .nilChk (.t 116)⟩,
       ⟨some 119, none, .faddr 1 (.t 118)⟩,
       ⟨none, none, .store 1 (.t 119) (.t 117)⟩] false [])
      (.keep [] (.seq
      (.region [⟨some 2, none, .mov (.c (.d (.i .i64 (-1))))⟩] false [])
      (.ret)))))))))))))))⟩

def F192_elf_file_fields_b1 : SCode :=
  .seq
             (.region [⟨some 78, none, .bin .lss (.t 77) (.t 76)⟩] false [])
             (.keep [0, 3, 4, 5, 8, 9, 75, 76, 77, 78] (.seq
             (.cond (.t 78)
              (.skip)
              (.exit 2))
             (.keep [0, 3, 4, 5, 8, 9, 75, 76, 77] (.seq
              (.block 3 (.seq
               (.region [⟨some 79, none, .mov (.t 77)⟩,
                ⟨some 80, none, .iaddr 2 (.t 75) (.t 77)⟩,
                ⟨some 81, none, .load 2 true (.t 80)⟩,
                ⟨some 11, none, .alloc [.i .i64 0, .i .u64 0]⟩,
                ⟨some 10, none, .mov (.t 79)⟩,
                ⟨none, none, .store 2 (.t 11) (.t 81)⟩] false [])
               (.keep [0, 3, 4, 5, 8, 9, 10, 11, 75, 76, 77] (.seq
               (.seq
                (.region [⟨some 82, none, .mov (.t 0)⟩,
                 ⟨some 83, none, .mov (.t 5)⟩,
                 ⟨some 84, none, .mov (.t 10)⟩,
                 ⟨some 85, none, .faddr 1 (.t 11)⟩,
                 ⟨some 86, none, .load 1 false (.t 85)⟩,
                 ⟨some 87, none, .mov (.t 3)⟩,
                 ⟨some 88, none, .call 200 [.t 82, .t 83, .t 84, .t 86, .t 87]⟩,
                 ⟨some 89, none, .mov (.t 88)⟩,
                 ⟨some 90, (some (7, false)), .mov (.t 8)⟩,
                 ⟨some 91, (some (7, false)), .mov (.t 90)⟩,
                 ⟨some 92, (some (9, true)), .mov (.t 5)⟩,
                 ⟨some 93, (some (9, true)), .bin .gtr (.t 92) (.c (.d (.i .i64 0)))⟩,
                 ⟨some 94, (some (7, false)), .pick (.t 91) (.t 93) (.c (.d (.b false)))⟩,
                 ⟨some 95, (some (7, false)), .mov (.t 94)⟩,
                 ⟨some 96, (some (13, true)), .mov (.t 10)⟩,
                 ⟨some 97, (some (13, true)), .bin .neq (.t 96) (.c (.d (.i .i64 0)))⟩,
                 ⟨some 98, (some (7, false)), .pick (.t 95) (.t 97) (.c (.d (.b false)))⟩,
                 ⟨some 99, (some (7, false)), .mov (.t 98)⟩,
                 ⟨some 100, (some (17, true)), .mov (.t 10)⟩,
                 ⟨some 101, (some (17, true)), .bin .neq (.t 100) (.c (.d (.i .i64 4)))⟩,
                 ⟨some 102, (some (7, false)), .pick (.t 99) (.t 101) (.c (.d (.b false)))⟩,
                 ⟨some 103, (some (7, false)), .mov (.t 102)⟩,
                 ⟨some 104, (some (21, true)), .mov (.t 10)⟩,
                 ⟨some 105, (some (21, true)), .bin .neq (.t 104) (.c (.d (.i .i64 5)))⟩,
                 ⟨some 106, (some (7, false)), .pick (.t 103) (.t 105) (.c (.d (.b false)))⟩,
                 ⟨some 107, (some (7, false)), .mov (.t 106)⟩,
                 ⟨some 108, (some (25, true)), .faddr 1 (.t 11)⟩,
                 ⟨some 109, (some (25, true)), .load 1 false (.t 108)⟩,
                 ⟨some 110, (some (25, true)), .mov (.t 4)⟩,
                 ⟨some 111, (some (25, true)), .mov (.t 10)⟩,
                 ⟨some 112, (some (25, true)), .iaddr 2 (.t 110) (.t 111)⟩,
                 ⟨some 113, (some (25, true)), .faddr 1 (.t 112)⟩,
                 ⟨some 114, (some (25, true)), .load 1 false (.t 113)⟩,
                 ⟨some 115, (some (25, true)), .bin .neq (.t 109) (.t 114)⟩,
                 ⟨some 116, (some (7, false)), .pick (.t 107) (.t 115) (.c (.d (.b false)))⟩,
                 ⟨some 117, none, .pick (.t 89) (.c (.d (.b true))) (.t 116)⟩] true [0, 0, 0, 0, 8, 0, 63, 127, 255, 511, 1023, 2047, 4095, 8191, 16383, 32767, 65535, 131071, 262143, 524287, 1048575, 2097151, 4194303, 8388607, 16777215, 33554431, 67108863, 134217727, 67108863, 67108863, 872415231, 1946157055, 4093640703, 8589934591, 17179869183, 34359738367])
                (.keep [0, 3, 4, 5, 8, 9, 10, 11, 75, 76, 77, 117] (.cond (.t 117)
                (.keep [9] (.seq
                 (.region [⟨some 118, none, .mov (.t 9)⟩,
                  ⟨some 2, none, .mov (.t 118)⟩] false [])
                 (.ret)))
                (.skip))))
               (.keep [0, 3, 4, 5, 8, 9, 10, 11, 75, 76, 77] (.seq
                (.seq
                (.region [⟨some 119, none, .mov (.t 8)⟩,
                 ⟨some 120, none, .mov (.t 119)⟩,
                 ⟨some 121, (some (1, true)), .mov (.t 5)⟩,
                 ⟨some 122, (some (1, true)), .bin .gtr (.t 121) (.c (.d (.i .i64 0)))⟩,
                 ⟨some 123, none, .pick (.t 120) (.t 122) (.c (.d (.b false)))⟩,
                 ⟨some 124, none, .mov (.t 123)⟩,
                 ⟨some 125, (some (5, true)), .mov (.t 10)⟩,
                 ⟨some 126, (some (5, true)), .bin .eql (.t 125) (.c (.d (.i .i64 5)))⟩,
                 ⟨some 127, none, .pick (.t 124) (.t 126) (.c (.d (.b false)))⟩,
                 ⟨some 128, none, .mov (.t 127)⟩,
                 ⟨some 129, (some (9, true)), .mov (.t 3)⟩,
                 ⟨some 130, (some (9, true)), .faddr 1 (.t 11)⟩,
                 ⟨some 131, (some (9, true)), .load 1 false (.t 130)⟩,
                 ⟨some 132, (some (9, true)), .conv .i64 (.t 131)⟩,
                 ⟨some 133, (some (9, true)), .bin .add (.t 129) (.t 132)⟩,
                 ⟨some 134, (some (9, true)), .call 187 [.t 133]⟩,
                 ⟨some 135, (some (9, true)), .mov (.t 0)⟩,
                 ⟨some 136, (some (9, true)), .nilChk (.t 135)⟩,
                 ⟨some 137, (some (9, true)), .faddr 1 (.t 136)⟩,
                 ⟨some 138, (some (9, true)), .load 1 false (.t 137)⟩,
                 ⟨some 139, (some (9, true)), .bin .neq (.t 134) (.t 138)⟩,
                 ⟨some 140, none, .pick (.t 128) (.t 139) (.c (.d (.b false)))⟩] true [0, 1, 3, 7, 15, 31, 63, 127, 255, 511, 1023, 1023, 3071, 7167, 16383, 32767, 1023, 66559, 197631, 459775, 1048575, 2097151])
                (.keep [0, 3, 4, 5, 8, 9, 11, 75, 76, 77, 140] (.cond (.t 140)
                 (.keep [9] (.seq
                 (.region [⟨some 141, none, .mov (.t 9)⟩,
                  ⟨some 2, none, .mov (.t 141)⟩] false [])
                 (.ret)))
                 (.skip))))
                (.keep [0, 3, 4, 5, 8, 9, 11, 75, 76, 77] (.region [⟨some 142, none, .mov (.t 9)⟩,
                 ⟨some 143, none, .faddr 0 (.t 11)⟩,
                 ⟨some 144, none, .load 1 false (.t 143)⟩,
                 ⟨some 145, none, .bin .add (.t 142) (.t 144)⟩,
                 ⟨some 9, none, .mov (.t 145)⟩] false []))))))))
              (.keep [0, 3, 4, 5, 8, 9, 75, 76, 77] (.region [⟨some 146, none, .bin .add (.t 77) (.c (.d (.i .i64 1)))⟩,
               ⟨some 77, none, .mov (.t 146)⟩] false []))))))
def F192_elf_file_fields_b0 : SCode :=
  .seq
      (.seq
       (.region [⟨some 14, none, .mov (.t 0)⟩,
        ⟨some 15, none, .nilChk (.t 14)⟩,
        ⟨some 16, none, .faddr 1 (.t 15)⟩,
        ⟨some 17, none, .load 1 false (.t 16)⟩,
        ⟨some 18, none, .mov (.t 5)⟩,
        ⟨some 19, none, .bin .mul (.c (.d (.i .i64 64))) (.t 18)⟩,
        ⟨some 20, none, .bin .add (.t 17) (.t 19)⟩,
        ⟨some 21, none, .mov (.t 0)⟩,
        ⟨some 22, none, .nilChk (.t 21)⟩,
        ⟨some 23, none, .faddr 0 (.t 22)⟩,
        ⟨some 24, none, .load 1 false (.t 23)⟩,
        ⟨some 25, none, .len false (.t 24)⟩,
        ⟨some 26, none, .bin .lss (.t 20) (.t 25)⟩] true [0, 1, 3, 7, 0, 16, 63, 0, 128, 384, 896, 1920, 4095])
       (.keep [0, 3, 4, 5, 26] (.cond (.t 26)
       (.skip)
       (.exit 0))))
      (.keep [0, 3, 4, 5] (.seq
       (.block 1 (.seq
        (.region [⟨some 29, none, .mov (.t 0)⟩,
         ⟨some 30, none, .nilChk (.t 29)⟩,
         ⟨some 31, none, .faddr 1 (.t 30)⟩,
         ⟨some 32, none, .load 1 false (.t 31)⟩,
         ⟨some 33, none, .mov (.t 5)⟩,
         ⟨some 34, none, .bin .mul (.c (.d (.i .i64 64))) (.t 33)⟩,
         ⟨some 35, none, .bin .add (.t 32) (.t 34)⟩,
         ⟨some 6, none, .mov (.t 35)⟩] false [])
        (.keep [0, 3, 4, 5, 6] (.seq
        (.region [⟨some 36, none, .mov (.t 0)⟩,
         ⟨some 37, none, .nilChk (.t 36)⟩,
         ⟨some 38, none, .faddr 0 (.t 37)⟩,
         ⟨some 39, none, .load 1 false (.t 38)⟩,
         ⟨some 40, none, .mov (.t 6)⟩,
         ⟨some 41, none, .mov (.t 6)⟩,
         ⟨some 42, none, .bin .add (.t 41) (.c (.d (.i .i64 64)))⟩,
         ⟨some 43, none, .slc 1 (.t 39) (some (.t 40)) (some (.t 42)) none⟩,
         ⟨some 44, none, .mov (.t 4)⟩,
         ⟨some 45, none, .call 199 [.t 43, .t 44]⟩,
         ⟨some 7, none, .mov (.t 45)⟩] false [])
        (.keep [0, 3, 4, 5, 6, 7] (.seq
         (.region [⟨some 46, none, .mov (.t 0)⟩,
          ⟨some 47, none, .mov (.t 0)⟩,
          ⟨some 48, none, .nilChk (.t 47)⟩,
          ⟨some 49, none, .faddr 2 (.t 48)⟩,
          ⟨some 50, none, .load 1 false (.t 49)⟩,
          ⟨some 51, none, .mov (.t 7)⟩,
          ⟨some 52, none, .lits 1 [.sl 0 false []] [(0, 1, .t 51)]⟩,
          ⟨some 53, none, .app 1 24 (.t 50) (.t 52)⟩,
          ⟨some 54, none, .nilChk (.t 46)⟩,
          ⟨some 55, none, .faddr 2 (.t 54)⟩,
          ⟨none, none, .store 1 (.t 55) (.t 53)⟩] false [])
         (.keep [0, 3, 4, 5, 6, 7] (.seq
         (.region [⟨some 56, none, .mov (.t 0)⟩,
          ⟨some 57, none, .mov (.t 0)⟩,
          ⟨some 58, none, .nilChk (.t 57)⟩,
          ⟨some 59, none, .faddr 3 (.t 58)⟩,
          ⟨some 60, none, .load 1 false (.t 59)⟩,
          ⟨some 61, none, .mov (.t 3)⟩,
          ⟨some 62, none, .lits 1 [.i .i64 0] [(0, 1, .t 61)]⟩,
          ⟨some 63, none, .app 1 8 (.t 60) (.t 62)⟩,
          ⟨some 64, none, .nilChk (.t 56)⟩,
          ⟨some 65, none, .faddr 3 (.t 64)⟩,
          ⟨none, none, .store 1 (.t 65) (.t 63)⟩] false [])
         (.keep [0, 3, 4, 5, 6, 7] (.seq
          (.region [⟨some 66, none, .mov (.t 6)⟩,
           ⟨some 67, none, .bin .add (.t 66) (.c (.d (.i .i64 64)))⟩,
           ⟨some 68, none, .mov (.t 0)⟩,
           ⟨some 69, none, .nilChk (.t 68)⟩,
           ⟨some 70, none, .faddr 0 (.t 69)⟩,
           ⟨some 71, none, .load 1 false (.t 70)⟩,
           ⟨some 72, none, .len false (.t 71)⟩,
           ⟨some 73, none, .bin .eql (.t 67) (.t 72)⟩,
           ⟨some 8, none, .mov (.t 73)⟩] false [])
          (.keep [0, 3, 4, 5, 6, 7, 8] (.seq
          (.region [⟨some 74, none, .mov (.t 6)⟩,
           ⟨some 9, none, .mov (.t 74)⟩] false [])
          (.keep [0, 3, 4, 5, 7, 8, 9] (.seq
           (.seq
           (.region [⟨some 75, none, .mov (.t 7)⟩,
            ⟨some 76, none, .len false (.t 75)⟩,
            ⟨some 77, none, .mov (.c (.d (.i .i64 0)))⟩] false [])
           (.keep [0, 3, 4, 5, 8, 9, 75, 76, 77] (.block 2 (.loop [0, 3, 4, 5, 8, 9, 75, 76, 77] true F192_elf_file_fields_b1))))
           (.keep [0, 3, 4, 5] (.seq
           (.region [⟨some 147, none, .mov (.t 5)⟩,
            ⟨some 148, none, .bin .gtr (.t 147) (.c (.d (.i .i64 0)))⟩] false [])
           (.keep [0, 3, 4, 5, 148] (.cond (.t 148)
            (.keep [0, 3, 4, 5] (.region [⟨some 149, none, .mov (.t 3)⟩,
             ⟨some 150, none, .mov (.t 0)⟩,
             ⟨some 151, none, .mov (.t 5)⟩,
             ⟨some 152, none, .call 201 [.t 150, .t 151]⟩,
             ⟨some 153, none, .bin .add (.t 149) (.t 152)⟩,
             ⟨some 154, none, .call 187 [.t 153]⟩,
             ⟨some 3, none, .mov (.t 154)⟩] false []))
            (.skip)))))))))))))))))))
       (.keep [0, 3, 4, 5] (.region [⟨some 27, none, .mov (.t 5)⟩,
        ⟨some 28, none, .bin .add (.t 27) (.c (.d (.i .i64 1)))⟩,
        ⟨some 5, none, .mov (.t 28)⟩] false []))))
/-- (*spindle/elf.file).fields -/
def F192_elf_file_fields : SFn := ⟨1, false, false, [.tmp 2],
  .seq
   (.region [⟨some 2, none, .mov (.c (.d (.i .i64 0)))⟩] false [])
   (.keep [0] (.seq
   (.region [⟨some 3, none, .mov (.c (.d (.i .i64 64)))⟩] false [])
   (.keep [0, 3] (.seq
    (.region [⟨some 12, none, .build [.s [], .i .i64 0, .i .i64 0, .i .i64 0, .i .i64 0, .i .i64 0, .i .i64 0, .sl 0 false []] [(1, 1, .c (.d (.i .i64 3))), (5, 1, .c (.d (.i .i64 1)))]⟩,
     ⟨some 13, none, .call 190 [.t 12, .c (.d (.i .i64 0)), .c (.d (.i .i64 0))]⟩,
     ⟨some 4, none, .mov (.t 13)⟩] false [])
    (.keep [0, 3, 4] (.seq
    (.seq
     (.region [⟨some 5, none, .mov (.c (.d (.i .i64 0)))⟩] false [])
     (.keep [0, 3, 4, 5] (.block 0 (.loop [0, 3, 4, 5] false F192_elf_file_fields_b0))))
    (.keep [] (.seq
     (.region [⟨some 2, none, .mov (.c (.d (.i .i64 (-1))))⟩] false [])
     (.ret)))))))))⟩

def F193_elf_file_padding_b1 : SCode :=
  .seq
         (.seq
         (.region [⟨some 27, none, .mov (.t 5)⟩,
          ⟨some 28, none, .mov (.t 4)⟩,
          ⟨some 29, none, .call 187 [.t 28]⟩,
          ⟨some 30, none, .bin .lss (.t 27) (.t 29)⟩] false [])
         (.keep [0, 3, 4, 5, 30] (.cond (.t 30)
          (.skip)
          (.exit 2))))
         (.keep [0, 3, 4, 5] (.seq
         (.block 3 (.seq
          (.region [⟨some 33, none, .mov (.t 0)⟩,
           ⟨some 34, none, .nilChk (.t 33)⟩,
           ⟨some 35, none, .faddr 0 (.t 34)⟩,
           ⟨some 36, none, .load 1 false (.t 35)⟩,
           ⟨some 37, none, .mov (.t 5)⟩,
           ⟨some 38, none, .iaddr 1 (.t 36) (.t 37)⟩,
           ⟨some 39, none, .load 1 false (.t 38)⟩,
           ⟨some 40, none, .bin .neq (.t 39) (.c (.d (.i .u8 0)))⟩] false [])
          (.keep [0, 3, 4, 5, 40] (.cond (.t 40)
           (.keep [5] (.seq
           (.region [⟨some 41, none, .mov (.t 5)⟩,
            ⟨some 2, none, .mov (.t 41)⟩] false [])
           (.ret)))
           (.skip)))))
         (.keep [0, 3, 4, 5] (.region [⟨some 31, none, .mov (.t 5)⟩,
          ⟨some 32, none, .bin .add (.t 31) (.c (.d (.i .i64 1)))⟩,
          ⟨some 5, none, .mov (.t 32)⟩] false []))))
def F193_elf_file_padding_b0 : SCode :=
  .seq
     (.seq
      (.region [⟨some 6, none, .mov (.t 3)⟩,
       ⟨some 7, none, .mov (.t 0)⟩,
       ⟨some 8, none, .nilChk (.t 7)⟩,
       ⟨some 9, none, .faddr 2 (.t 8)⟩,
       ⟨some 10, none, .load 1 false (.t 9)⟩,
       ⟨some 11, none, .len false (.t 10)⟩,
       ⟨some 12, none, .bin .lss (.t 6) (.t 11)⟩] false [])
      (.keep [0, 3, 12] (.cond (.t 12)
      (.skip)
      (.exit 0))))
     (.keep [0, 3] (.seq
      (.block 1 (.seq
       (.region [⟨some 15, none, .mov (.t 0)⟩,
        ⟨some 16, none, .nilChk (.t 15)⟩,
        ⟨some 17, none, .faddr 3 (.t 16)⟩,
        ⟨some 18, none, .load 1 false (.t 17)⟩,
        ⟨some 19, none, .mov (.t 3)⟩,
        ⟨some 20, none, .iaddr 1 (.t 18) (.t 19)⟩,
        ⟨some 21, none, .load 1 false (.t 20)⟩,
        ⟨some 22, none, .mov (.t 0)⟩,
        ⟨some 23, none, .mov (.t 3)⟩,
        ⟨some 24, none, .call 201 [.t 22, .t 23]⟩,
        ⟨some 25, none, .bin .add (.t 21) (.t 24)⟩,
        ⟨some 4, none, .mov (.t 25)⟩] true [0, 1, 3, 7, 0, 31, 63, 0, 0, 384, 1023, 2047])
       (.keep [0, 3, 4] (.seq
       (.region [⟨some 26, none, .mov (.t 4)⟩,
        ⟨some 5, none, .mov (.t 26)⟩] false [])
       (.keep [0, 3, 4, 5] (.block 2 (.loop [0, 3, 4, 5] false F193_elf_file_padding_b1)))))))
      (.keep [0, 3] (.region [⟨some 13, none, .mov (.t 3)⟩,
       ⟨some 14, none, .bin .add (.t 13) (.c (.d (.i .i64 1)))⟩,
       ⟨some 3, none, .mov (.t 14)⟩] false []))))
/-- (*spindle/elf.file).padding -/
def F193_elf_file_padding : SFn := ⟨1, true, false, [.tmp 2],
  .seq
   (.region [⟨some 2, none, .mov (.c (.d (.i .i64 0)))⟩] false [])
   (.keep [0] (.seq
   (.seq
    (.region [⟨some 3, none, .mov (.c (.d (.i .i64 1)))⟩] false [])
    (.keep [0, 3] (.block 0 (.loop [0, 3] false F193_elf_file_padding_b0))))
   (.keep [] (.seq
    (.region [⟨some 2, none, .mov (.c (.d (.i .i64 (-1))))⟩] false [])
    (.ret)))))⟩

def F194_elf_file_names_b0 : SCode :=
  .seq
        (.seq
         (.region [⟨some 44, none, .mov (.t 11)⟩,
          ⟨some 45, none, .mov (.t 4)⟩,
          ⟨some 46, none, .bin .leq (.t 44) (.t 45)⟩] false [])
         (.keep [0, 4, 5, 8, 9, 10, 11, 46] (.cond (.t 46)
         (.skip)
         (.exit 0))))
        (.keep [0, 4, 5, 8, 9, 10, 11] (.seq
         (.block 1 (.seq
          (.region [⟨some 49, none, .mov (.t 0)⟩,
           ⟨some 50, none, .nilChk (.t 49)⟩,
           ⟨some 51, none, .faddr 2 (.t 50)⟩,
           ⟨some 52, none, .load 1 false (.t 51)⟩,
           ⟨some 53, none, .mov (.t 11)⟩,
           ⟨some 54, none, .iaddr 1 (.t 52) (.t 53)⟩,
           ⟨some 55, none, .load 1 false (.t 54)⟩,
           ⟨some 56, none, .iaddr 2 (.t 55) (.c (.d (.i .i64 0)))⟩,
           ⟨some 57, none, .faddr 1 (.t 56)⟩,
           ⟨some 58, none, .load 1 false (.t 57)⟩,
           ⟨some 59, none, .conv .i64 (.t 58)⟩,
           ⟨some 12, none, .mov (.t 59)⟩] false [])
          (.keep [0, 4, 5, 8, 9, 10, 11, 12] (.seq
          (.region [⟨some 61, none, .mov (.t 5)⟩,
           ⟨some 62, none, .mov (.t 12)⟩,
           ⟨some 63, none, .call 144 [.t 61, .t 62]⟩,
           ⟨some 60, none, .mov (.t 63)⟩,
           ⟨some 64, none, .extract 0 (.t 60)⟩,
           ⟨some 65, none, .extract 1 (.t 60)⟩,
           ⟨some 13, none, .mov (.t 64)⟩,
           ⟨some 14, none, .mov (.t 65)⟩] false [])
          (.keep [0, 4, 5, 8, 9, 10, 11, 12, 13, 14] (.seq
           (.region [⟨some 67, none, .mov (.t 9)⟩,
            ⟨some 68, none, .mov (.t 12)⟩,
            ⟨some 69, none, .look false true [.i .i64 0] false (.t 67) (.t 68)⟩,
            ⟨some 66, none, .mov (.t 69)⟩,
            ⟨some 70, none, .extract 0 (.t 66)⟩,
            ⟨some 71, none, .extract 1 (.t 66)⟩,
            ⟨some 15, none, .mov (.t 70)⟩,
            ⟨some 16, none, .mov (.t 71)⟩] false [])
           (.keep [0, 4, 5, 8, 9, 10, 11, 12, 13, 14, 16] (.seq
           (.seq
            (.region [⟨some 72, none, .mov (.t 14)⟩,
             ⟨some 73, none, .bin .neq (.t 72) (.c (.d (.i .i64 0)))⟩,
             ⟨some 74, none, .mov (.t 73)⟩,
             ⟨some 75, (some (2, false)), .mov (.t 13)⟩,
             ⟨some 76, (some (2, false)), .bin .eql (.t 75) (.c (.d (.s [])))⟩,
             ⟨some 77, none, .pick (.t 74) (.c (.d (.b true))) (.t 76)⟩,
             ⟨some 78, none, .mov (.t 77)⟩,
             ⟨some 79, (some (6, false)), .mov (.t 16)⟩,
             ⟨some 80, (some (6, false)), .un .not (.t 79)⟩,
             ⟨some 81, (some (6, false)), .mov (.t 80)⟩,
             ⟨some 82, (some (9, true)), .mov (.t 12)⟩,
             ⟨some 83, (some (9, true)), .mov (.t 10)⟩,
             ⟨some 84, (some (9, true)), .bin .neq (.t 82) (.t 83)⟩,
             ⟨some 85, (some (6, false)), .pick (.t 81) (.t 84) (.c (.d (.b false)))⟩,
             ⟨some 86, none, .pick (.t 78) (.c (.d (.b true))) (.t 85)⟩,
             ⟨some 87, none, .mov (.t 86)⟩,
             ⟨some 88, (some (15, false)), .mov (.t 11)⟩,
             ⟨some 89, (some (15, false)), .mov (.t 4)⟩,
             ⟨some 90, (some (15, false)), .bin .eql (.t 88) (.t 89)⟩,
             ⟨some 91, (some (15, false)), .mov (.t 90)⟩,
             ⟨some 92, (some (19, true)), .mov (.t 13)⟩,
             ⟨some 93, (some (19, true)), .bin .neq (.t 92) (.c (.d (.s [46, 115, 104, 115, 116, 114, 116, 97, 98])))⟩,
             ⟨some 94, (some (15, false)), .pick (.t 91) (.t 93) (.c (.d (.b false)))⟩,
             ⟨some 95, none, .pick (.t 87) (.c (.d (.b true))) (.t 94)⟩] false [])
            (.keep [0, 4, 5, 8, 9, 10, 11, 12, 13, 16, 95] (.cond (.t 95)
            (.keep [0, 11] (.seq
             (.region [⟨some 96, none, .mov (.t 0)⟩,
              ⟨some 97, none, .nilChk (.t 96)⟩,
              ⟨some 98, none, .faddr 1 (.t 97)⟩,
              ⟨some 99, none, .load 1 false (.t 98)⟩,
              ⟨some 100, none, .mov (.t 11)⟩,
              ⟨some 101, none, .bin .mul (.c (.d (.i .i64 64))) (.t 100)⟩,
              ⟨some 102, none, .bin .add (.t 99) (.t 101)⟩,
              ⟨some 2, none, .mov (.c (.d (.sl 0 false [])))⟩,
              ⟨some 3, none, .mov (.t 102)⟩] true [0, 1, 3, 7, 0, 16, 63, 0, 255])
             (.ret)))
            (.skip))))
           (.keep [0, 4, 5, 8, 9, 10, 11, 12, 13, 16] (.seq
            (.seq
            (.region [⟨some 103, none, .mov (.t 16)⟩,
             ⟨some 104, none, .un .not (.t 103)⟩] false [])
            (.keep [0, 4, 5, 8, 9, 10, 11, 12, 13, 104] (.cond (.t 104)
             (.keep [0, 4, 5, 8, 9, 11, 12, 13] (.seq
             (.region [⟨some 105, none, .mov (.t 9)⟩,
              ⟨some 106, none, .mov (.t 12)⟩,
              ⟨some 107, none, .mov (.t 11)⟩,
              ⟨none, none, .mapSet false (.t 105) (.t 106) (.t 107)⟩] false [])
             (.keep [0, 4, 5, 8, 9, 11, 12, 13] (.region [⟨some 108, none, .mov (.t 12)⟩,
              ⟨some 109, none, .mov (.t 13)⟩,
              ⟨some 110, none, .len true (.t 109)⟩,
              ⟨some 111, none, .bin .add (.t 108) (.t 110)⟩,
              ⟨some 112, none, .bin .add (.t 111) (.c (.d (.i .i64 1)))⟩,
              ⟨some 10, none, .mov (.t 112)⟩] false []))))
             (.skip))))
            (.keep [0, 4, 5, 8, 9, 10, 11, 13] (.region [⟨some 113, none, .mov (.t 8)⟩,
             ⟨some 114, none, .mov (.t 13)⟩,
             ⟨some 115, none, .lits 1 [.s []] [(0, 1, .t 114)]⟩,
             ⟨some 116, none, .app 1 16 (.t 113) (.t 115)⟩,
             ⟨some 8, none, .mov (.t 116)⟩] false []))))))))))))
         (.keep [0, 4, 5, 8, 9, 10, 11] (.region [⟨some 47, none, .mov (.t 11)⟩,
          ⟨some 48, none, .bin .add (.t 47) (.c (.d (.i .i64 1)))⟩,
          ⟨some 11, none, .mov (.t 48)⟩] false []))))
/-- (*spindle/elf.file).names -/
def F194_elf_file_names : SFn := ⟨1, false, false, [.tmp 2, .tmp 3],
  .seq
   (.region [⟨some 2, none, .mov (.c (.d (.sl 0 false [])))⟩,
    ⟨some 3, none, .mov (.c (.d (.i .i64 0)))⟩] false [])
   (.keep [0] (.seq
   (.region [⟨some 17, none, .mov (.t 0)⟩,
    ⟨some 18, none, .nilChk (.t 17)⟩,
    ⟨some 19, none, .faddr 2 (.t 18)⟩,
    ⟨some 20, none, .load 1 false (.t 19)⟩,
    ⟨some 21, none, .len false (.t 20)⟩,
    ⟨some 22, none, .bin .sub (.t 21) (.c (.d (.i .i64 1)))⟩,
    ⟨some 4, none, .mov (.t 22)⟩] false [])
   (.keep [0, 4] (.seq
    (.region [⟨some 24, none, .mov (.t 0)⟩,
     ⟨some 25, none, .mov (.t 4)⟩,
     ⟨some 26, none, .call 197 [.t 24, .t 25]⟩,
     ⟨some 27, none, .call 198 [.t 26]⟩,
     ⟨some 28, none, .call 143 [.t 27]⟩,
     ⟨some 23, none, .mov (.t 28)⟩,
     ⟨some 29, none, .extract 0 (.t 23)⟩,
     ⟨some 30, none, .extract 1 (.t 23)⟩,
     ⟨some 31, none, .extract 2 (.t 23)⟩,
     ⟨some 5, none, .mov (.t 29)⟩,
     ⟨some 6, none, .mov (.t 30)⟩,
     ⟨some 7, none, .mov (.t 31)⟩] false [])
    (.keep [0, 4, 5, 6, 7] (.seq
    (.seq
     (.region [⟨some 32, none, .mov (.t 7)⟩,
      ⟨some 33, none, .bin .neq (.t 32) (.c (.d (.i .i64 0)))⟩] false [])
     (.keep [0, 4, 5, 6, 33] (.cond (.t 33)
     (.keep [0, 4, 6] (.seq
      (.region [⟨some 34, none, .mov (.t 0)⟩,
       ⟨some 35, none, .nilChk (.t 34)⟩,
       ⟨some 36, none, .faddr 3 (.t 35)⟩,
       ⟨some 37, none, .load 1 false (.t 36)⟩,
       ⟨some 38, none, .mov (.t 4)⟩,
       ⟨some 39, none, .iaddr 1 (.t 37) (.t 38)⟩,
       ⟨some 40, none, .load 1 false (.t 39)⟩,
       ⟨some 41, none, .mov (.t 6)⟩,
       ⟨some 42, none, .bin .add (.t 40) (.t 41)⟩,
       ⟨some 2, none, .mov (.c (.d (.sl 0 false [])))⟩,
       ⟨some 3, none, .mov (.t 42)⟩] true [0, 1, 3, 7, 0, 31, 63, 0, 255, 0, 1023])
      (.ret)))
     (.skip))))
    (.keep [0, 4, 5] (.seq
     (.region [⟨some 8, none, .tok 1 (.c (.d (.sl 0 false [])))⟩] false [])
     (.keep [0, 4, 5, 8] (.seq
     (.region [⟨some 43, none, .mkMap none⟩,
      ⟨some 9, none, .mov (.t 43)⟩] false [])
     (.keep [0, 4, 5, 8, 9] (.seq
      (.region [⟨some 10, none, .mov (.c (.d (.i .i64 1)))⟩] false [])
      (.keep [0, 4, 5, 8, 9, 10] (.seq
      (.seq
       (.region [⟨some 11, none, .mov (.c (.d (.i .i64 1)))⟩] false [])
       (.keep [0, 4, 5, 8, 9, 10, 11] (.block 0 (.loop [0, 4, 5, 8, 9, 10, 11] false F194_elf_file_names_b0))))
      (.keep [0, 4, 8, 10] (.seq
       (.seq
       (.region [⟨some 117, none, .mov (.t 10)⟩,
        ⟨some 118, none, .mov (.t 0)⟩,
        ⟨some 119, none, .mov (.t 4)⟩,
        ⟨some 120, none, .call 201 [.t 118, .t 119]⟩,
        ⟨some 121, none, .bin .neq (.t 117) (.t 120)⟩] false [])
       (.keep [0, 4, 8, 10, 121] (.cond (.t 121)
        (.keep [0, 4, 10] (.seq
        (.region [⟨some 122, none, .mov (.t 0)⟩,
         ⟨some 123, none, .nilChk (.t 122)⟩,
         ⟨some 124, none, .faddr 3 (.t 123)⟩,
         ⟨some 125, none, .load 1 false (.t 124)⟩,
         ⟨some 126, none, .mov (.t 4)⟩,
         ⟨some 127, none, .iaddr 1 (.t 125) (.t 126)⟩,
         ⟨some 128, none, .load 1 false (.t 127)⟩,
         ⟨some 129, none, .mov (.t 10)⟩,
         ⟨some 130, none, .bin .add (.t 128) (.t 129)⟩,
         ⟨some 2, none, .mov (.c (.d (.sl 0 false [])))⟩,
         ⟨some 3, none, .mov (.t 130)⟩] true [0, 1, 3, 7, 0, 31, 63, 0, 255, 0, 1023])
        (.ret)))
        (.skip))))
       (.keep [8] (.seq
       (.region [⟨some 131, none, .mov (.t 8)⟩,
        ⟨some 2, none, .mov (.t 131)⟩,
        ⟨some 3, none, .mov (.c (.d (.i .i64 (-1))))⟩] false [])
       (.ret)))))))))))))))))))⟩

/-- spindle/elf.small -/
def F195_elf_small : SFn := ⟨1, true, true, [.tmp 2],
  .seq
   (.region [⟨some 2, none, .mov (.c (.d (.b false)))⟩] false [])
   (.keep [0] (.seq
   (.region [⟨some 3, none, .mov (.t 0)⟩,
    ⟨some 4, none, .bin .geq (.t 3) (.c (.d (.i .i64 0)))⟩,
    ⟨some 5, none, .mov (.t 4)⟩,
    ⟨some 6, (some (2, true)), .mov (.t 0)⟩,
    ⟨some 7, (some (2, true)), .bin .leq (.t 6) (.c (.d (.i .i64 4294967295)))⟩,
    ⟨some 8, none, .pick (.t 5) (.t 7) (.c (.d (.b false)))⟩,
    ⟨some 2, none, .mov (.t 8)⟩] false [])
   (.ret)))⟩

/-- spindle/elf.Read$1 -/
def F196_elf_Read_1 : SFn := ⟨3, true, false, [.tmp 4],
  .seq
   (.region [⟨some 4, none, .mov (.c (.d (.i .i64 0)))⟩] false [])
   (.keep [0, 1, 2] (.seq
   (.region [⟨some 5, none, .load 1 false (.t 1)⟩,
    ⟨some 6, none, .nilChk (.t 5)⟩,
    ⟨some 7, none, .faddr 2 (.t 6)⟩,
    ⟨some 8, none, .load 1 false (.t 7)⟩,
    ⟨some 9, none, .load 1 false (.t 2)⟩,
    ⟨some 10, none, .iaddr 1 (.t 8) (.t 9)⟩,
    ⟨some 11, none, .load 1 false (.t 10)⟩,
    ⟨some 12, none, .mov (.t 0)⟩,
    ⟨some 13, none, .iaddr 2 (.t 11) (.t 12)⟩,
    ⟨some 14, none, .faddr 1 (.t 13)⟩,
    ⟨some 15, none, .load 1 false (.t 14)⟩,
    ⟨some 16, none, .conv .i64 (.t 15)⟩,
    ⟨some 4, none, .mov (.t 16)⟩] true [0, 1, 3, 7, 0, 31, 63, 0, 255, 511, 1023, 2047, 4095])
   (.ret)))⟩

/-- (*spindle/elf.file).data -/
def F197_elf_file_data : SFn := ⟨2, true, false, [.tmp 4],
  .seq
   (.region [⟨some 4, none, .mov (.c (.d (.sl 0 false [])))⟩] false [])
   (.keep [0, 1] (.seq
   (.region [⟨some 5, none, .mov (.t 0)⟩,
    ⟨some 6, none, .nilChk (.t 5)⟩,
    ⟨some 7, none, .faddr 0 (.t 6)⟩,
    ⟨some 8, none, .load 1 false (.t 7)⟩,
    ⟨some 9, none, .mov (.t 0)⟩,
    ⟨some 10, none, .nilChk (.t 9)⟩,
    ⟨some 11, none, .faddr 3 (.t 10)⟩,
    ⟨some 12, none, .load 1 false (.t 11)⟩,
    ⟨some 13, none, .mov (.t 1)⟩,
    ⟨some 14, none, .iaddr 1 (.t 12) (.t 13)⟩,
    ⟨some 15, none, .load 1 false (.t 14)⟩,
    ⟨some 16, none, .mov (.t 0)⟩,
    ⟨some 17, none, .nilChk (.t 16)⟩,
    ⟨some 18, none, .faddr 3 (.t 17)⟩,
    ⟨some 19, none, .load 1 false (.t 18)⟩,
    ⟨some 20, none, .mov (.t 1)⟩,
    ⟨some 21, none, .iaddr 1 (.t 19) (.t 20)⟩,
    ⟨some 22, none, .load 1 false (.t 21)⟩,
    ⟨some 23, none, .mov (.t 0)⟩,
    ⟨some 24, none, .mov (.t 1)⟩,
    ⟨some 25, none, .call 201 [.t 23, .t 24]⟩,
    ⟨some 26, none, .bin .add (.t 22) (.t 25)⟩,
    ⟨some 27, none, .slc 1 (.t 8) (some (.t 15)) (some (.t 26)) none⟩,
    ⟨some 4, none, .mov (.t 27)⟩] true [0, 1, 3, 7, 0, 16, 48, 112, 0, 496, 1008, 0, 2048, 6144, 14336, 0, 63488, 129024, 0, 0, 786432, 2095104, 4194303, 8388607])
   (.ret)))⟩

def F199_elf_told_b1 : SCode :=
  .seq
           (.region [⟨some 25, none, .bin .lss (.t 24) (.t 23)⟩] false [])
           (.keep [0, 5, 7, 8, 13, 14, 15, 23, 24, 25] (.seq
           (.cond (.t 25)
            (.skip)
            (.exit 2))
           (.keep [0, 5, 7, 8, 13, 14, 15, 23, 24] (.seq
            (.block 3 (.seq
             (.region [⟨some 26, none, .mov (.t 24)⟩,
              ⟨some 9, none, .mov (.t 26)⟩] false [])
             (.keep [0, 5, 7, 8, 9, 13, 14, 15, 23, 24] (.region [⟨some 27, none, .faddr 1 (.t 8)⟩,
              ⟨some 28, none, .load 1 false (.t 27)⟩,
              ⟨some 29, none, .mov (.t 0)⟩,
              ⟨some 30, none, .mov (.t 9)⟩,
              ⟨some 31, none, .iaddr 1 (.t 29) (.t 30)⟩,
              ⟨some 32, none, .load 1 false (.t 31)⟩,
              ⟨some 33, none, .conv .u64 (.t 32)⟩,
              ⟨some 34, none, .mov (.t 9)⟩,
              ⟨some 35, none, .bin .mul (.c (.d (.i .i64 8))) (.t 34)⟩,
              ⟨some 36, none, .bin .shl (.t 33) (.t 35)⟩,
              ⟨some 37, none, .bin .or (.t 28) (.t 36)⟩,
              ⟨some 38, none, .faddr 1 (.t 8)⟩,
              ⟨none, none, .store 1 (.t 38) (.t 37)⟩] true [0, 1, 0, 0, 12, 28, 60, 0, 128, 508, 1023, 2047, 4095]))))
            (.keep [0, 5, 7, 8, 13, 14, 15, 23, 24] (.region [⟨some 39, none, .bin .add (.t 24) (.c (.d (.i .i64 1)))⟩,
             ⟨some 24, none, .mov (.t 39)⟩] false []))))))
def F199_elf_told_b0 : SCode :=
  .seq
      (.region [⟨some 16, none, .bin .lss (.t 15) (.t 14)⟩] false [])
      (.keep [0, 5, 13, 14, 15, 16] (.seq
      (.cond (.t 16)
       (.skip)
       (.exit 0))
      (.keep [0, 5, 13, 14, 15] (.seq
       (.block 1 (.seq
        (.region [⟨some 17, none, .iaddr 2 (.t 13) (.t 15)⟩,
         ⟨some 18, none, .load 2 true (.t 17)⟩,
         ⟨some 7, none, .alloc [.i .i64 0, .i .u64 0]⟩,
         ⟨none, none, .store 2 (.t 7) (.t 18)⟩] false [])
        (.keep [0, 5, 7, 13, 14, 15] (.seq
        (.region [⟨some 19, none, .faddr 0 (.t 7)⟩,
         ⟨some 20, none, .load 1 false (.t 19)⟩,
         ⟨some 21, none, .build [.i .i64 0, .i .u64 0] [(0, 1, .t 20)]⟩,
         ⟨some 8, none, .alloc [.i .i64 0, .i .u64 0]⟩,
         ⟨none, none, .store 2 (.t 8) (.t 21)⟩] false [])
        (.keep [0, 5, 7, 8, 13, 14, 15] (.seq
         (.seq
         (.region [⟨some 22, none, .faddr 0 (.t 7)⟩,
          ⟨some 23, none, .load 1 false (.t 22)⟩,
          ⟨some 24, none, .mov (.c (.d (.i .i64 0)))⟩] false [])
         (.keep [0, 5, 7, 8, 13, 14, 15, 23, 24] (.block 2 (.loop [0, 5, 7, 8, 13, 14, 15, 23, 24] false F199_elf_told_b1))))
         (.keep [0, 5, 7, 8, 13, 14, 15] (.seq
         (.region [⟨some 40, none, .mov (.t 0)⟩,
          ⟨some 41, none, .faddr 0 (.t 7)⟩,
          ⟨some 42, none, .load 1 false (.t 41)⟩,
          ⟨some 43, none, .slc 1 (.t 40) (some (.t 42)) none none⟩,
          ⟨some 0, none, .mov (.t 43)⟩] false [])
         (.keep [0, 5, 8, 13, 14, 15] (.region [⟨some 44, none, .mov (.t 5)⟩,
          ⟨some 45, none, .load 2 true (.t 8)⟩,
          ⟨some 46, none, .lits 1 [.i .i64 0, .i .u64 0] [(0, 2, .t 45)]⟩,
          ⟨some 47, none, .app 2 16 (.t 44) (.t 46)⟩,
          ⟨some 5, none, .mov (.t 47)⟩] false []))))))))))
       (.keep [0, 5, 13, 14, 15] (.region [⟨some 48, none, .bin .add (.t 15) (.c (.d (.i .i64 1)))⟩,
        ⟨some 15, none, .mov (.t 48)⟩] false []))))))
/-- spindle/elf.told -/
def F199_elf_told : SFn := ⟨2, true, true, [.tmp 4],
  .seq
   (.region [⟨some 4, none, .mov (.c (.d (.sl 0 false [])))⟩] false [])
   (.keep [0, 1] (.seq
   (.region [⟨some 10, none, .mov (.t 1)⟩,
    ⟨some 11, none, .len false (.t 10)⟩,
    ⟨some 12, none, .mkO 16 2 [.i .i64 0, .i .u64 0] (.c (.d (.i .i64 0))) (.t 11)⟩,
    ⟨some 5, none, .mov (.t 12)⟩] false [])
   (.keep [0, 1, 5] (.seq
    (.seq
    (.region [⟨some 13, none, .mov (.t 1)⟩,
     ⟨some 14, none, .len false (.t 13)⟩,
     ⟨some 15, none, .mov (.c (.d (.i .i64 0)))⟩] false [])
    (.keep [0, 5, 13, 14, 15] (.block 0 (.loop [0, 5, 13, 14, 15] true F199_elf_told_b0))))
    (.keep [5] (.seq
    (.region [⟨some 49, none, .mov (.t 5)⟩,
     ⟨some 4, none, .mov (.t 49)⟩] false [])
    (.ret)))))))⟩

/-- (*spindle/elf.file).wrong -/
def F200_elf_file_wrong : SFn := ⟨5, true, false, [.tmp 10],
  .seq
   (.region [⟨some 10, none, .mov (.c (.d (.b false)))⟩] false [])
   (.keep [0, 1, 2, 3, 4] (.seq
   (.seq
    (.region [⟨some 11, none, .mov (.t 1)⟩,
     ⟨some 12, none, .bin .eql (.t 11) (.c (.d (.i .i64 0)))⟩] false [])
    (.keep [0, 2, 3, 4, 12] (.cond (.t 12)
    (.keep [3] (.seq
     (.region [⟨some 13, none, .mov (.t 3)⟩,
      ⟨some 14, none, .bin .neq (.t 13) (.c (.d (.i .u64 0)))⟩,
      ⟨some 10, none, .mov (.t 14)⟩] false [])
     (.ret)))
    (.skip))))
   (.keep [0, 2, 3, 4] (.seq
    (.seq
    (.region [⟨some 15, none, .mov (.t 2)⟩] false [])
    (.keep [0, 3, 4, 15] (.block 0 (.seq
     (.seq
      (.region [⟨some 17, none, .bin .eql (.t 15) (.c (.d (.i .i64 2)))⟩,
       ⟨some 16, none, .mov (.t 17)⟩] false [])
      (.keep [0, 3, 4, 15, 16] (.cond (.t 16)
      (.skip)
      (.keep [0, 3, 4, 15] (.seq
       (.region [⟨some 18, none, .bin .eql (.t 15) (.c (.d (.i .i64 8)))⟩,
        ⟨some 16, none, .mov (.t 18)⟩] false [])
       (.keep [0, 3, 4, 15, 16] (.cond (.t 16)
       (.skip)
       (.keep [0, 3, 4, 15] (.region [⟨some 19, none, .bin .eql (.t 15) (.c (.d (.i .i64 9)))⟩,
        ⟨some 16, none, .mov (.t 19)⟩] false [])))))))))
     (.keep [0, 3, 4, 15, 16] (.cond (.t 16)
      (.keep [3] (.seq
      (.region [⟨some 20, none, .mov (.t 3)⟩,
       ⟨some 21, none, .bin .geq (.t 20) (.c (.d (.i .u64 9223372036854775808)))⟩,
       ⟨some 10, none, .mov (.t 21)⟩] false [])
      (.ret)))
      (.keep [0, 3, 4, 15] (.seq
      (.region [⟨some 23, none, .bin .eql (.t 15) (.c (.d (.i .i64 3)))⟩,
       ⟨some 22, none, .mov (.t 23)⟩] false [])
      (.keep [0, 3, 4, 15, 22] (.cond (.t 22)
       (.keep [3] (.seq
       (.region [⟨some 24, none, .mov (.t 3)⟩,
        ⟨some 25, none, .bin .neq (.t 24) (.c (.d (.i .u64 0)))⟩,
        ⟨some 10, none, .mov (.t 25)⟩] false [])
       (.ret)))
       (.keep [0, 3, 4, 15] (.seq
       (.region [⟨some 27, none, .bin .eql (.t 15) (.c (.d (.i .i64 4)))⟩,
        ⟨some 26, none, .mov (.t 27)⟩] false [])
       (.keep [0, 3, 4, 15, 26] (.cond (.t 26)
        (.keep [3, 4] (.seq
        (.region [⟨some 28, none, .mov (.t 3)⟩,
         ⟨some 29, none, .mov (.t 4)⟩,
         ⟨some 30, none, .conv .u64 (.t 29)⟩,
         ⟨some 31, none, .bin .neq (.t 28) (.t 30)⟩,
         ⟨some 10, none, .mov (.t 31)⟩] false [])
        (.ret)))
        (.keep [0, 3, 4, 15] (.seq
        (.region [⟨some 33, none, .bin .eql (.t 15) (.c (.d (.i .i64 5)))⟩,
         ⟨some 32, none, .mov (.t 33)⟩] false [])
        (.keep [0, 3, 4, 32] (.cond (.t 32)
         (.keep [0, 3, 4] (.seq
         (.region [⟨some 34, none, .mov (.t 3)⟩,
          ⟨some 35, none, .mov (.t 0)⟩,
          ⟨some 36, none, .nilChk (.t 35)⟩,
          ⟨some 37, none, .faddr 1 (.t 36)⟩,
          ⟨some 38, none, .load 1 false (.t 37)⟩,
          ⟨some 39, none, .mov (.t 4)⟩,
          ⟨some 40, none, .bin .sub (.t 38) (.t 39)⟩,
          ⟨some 41, none, .conv .u64 (.t 40)⟩,
          ⟨some 42, none, .bin .gtr (.t 34) (.t 41)⟩,
          ⟨some 10, none, .mov (.t 42)⟩] false [])
         (.ret)))
         (.skip)))))))))))))))))))
    (.keep [] (.seq
    (.region [⟨some 10, none, .mov (.c (.d (.b false)))⟩] false [])
    (.ret)))))))⟩

/-- (*spindle/elf.file).size -/
def F201_elf_file_size : SFn := ⟨2, true, false, [.tmp 4],
  .seq
   (.region [⟨some 4, none, .mov (.c (.d (.i .i64 0)))⟩] false [])
   (.keep [0, 1] (.seq
   (.region [⟨some 5, none, .mov (.t 0)⟩,
    ⟨some 6, none, .nilChk (.t 5)⟩,
    ⟨some 7, none, .faddr 2 (.t 6)⟩,
    ⟨some 8, none, .load 1 false (.t 7)⟩,
    ⟨some 9, none, .mov (.t 1)⟩,
    ⟨some 10, none, .iaddr 1 (.t 8) (.t 9)⟩,
    ⟨some 11, none, .load 1 false (.t 10)⟩,
    ⟨some 12, none, .iaddr 2 (.t 11) (.c (.d (.i .i64 5)))⟩,
    ⟨some 13, none, .faddr 1 (.t 12)⟩,
    ⟨some 14, none, .load 1 false (.t 13)⟩,
    ⟨some 15, none, .conv .i64 (.t 14)⟩,
    ⟨some 4, none, .mov (.t 15)⟩] false [])
   (.ret)))⟩

def F202_elf_laid_own_b1 : SCode :=
  .seq
          (.region [⟨some 16, none, .bin .lss (.t 15) (.t 14)⟩] false [])
          (.keep [3, 5, 7, 8, 9, 14, 15, 16] (.seq
          (.cond (.t 16)
           (.skip)
           (.exit 2))
          (.keep [3, 5, 7, 8, 9, 14, 15] (.seq
           (.block 3 (.seq
            (.region [⟨some 17, none, .mov (.t 15)⟩,
             ⟨some 6, none, .mov (.t 17)⟩] false [])
            (.keep [3, 5, 6, 7, 8, 9, 14, 15] (.region [⟨some 18, none, .mov (.t 3)⟩,
             ⟨some 19, none, .faddr 1 (.t 5)⟩,
             ⟨some 20, none, .load 1 false (.t 19)⟩,
             ⟨some 21, none, .mov (.t 6)⟩,
             ⟨some 22, none, .bin .mul (.c (.d (.i .i64 8))) (.t 21)⟩,
             ⟨some 23, none, .bin .shr (.t 20) (.t 22)⟩,
             ⟨some 24, none, .conv .u8 (.t 23)⟩,
             ⟨some 25, none, .lits 1 [.i .u8 0] [(0, 1, .t 24)]⟩,
             ⟨some 26, none, .app 1 1 (.t 18) (.t 25)⟩,
             ⟨some 3, none, .mov (.t 26)⟩] false []))))
           (.keep [3, 5, 7, 8, 9, 14, 15] (.region [⟨some 27, none, .bin .add (.t 15) (.c (.d (.i .i64 1)))⟩,
            ⟨some 15, none, .mov (.t 27)⟩] false []))))))
def F202_elf_laid_own_b0 : SCode :=
  .seq
      (.region [⟨some 10, none, .bin .lss (.t 9) (.t 8)⟩] false [])
      (.keep [3, 7, 8, 9, 10] (.seq
      (.cond (.t 10)
       (.skip)
       (.exit 0))
      (.keep [3, 7, 8, 9] (.seq
       (.block 1 (.seq
        (.region [⟨some 11, none, .iaddr 2 (.t 7) (.t 9)⟩,
         ⟨some 12, none, .load 2 true (.t 11)⟩,
         ⟨some 5, none, .alloc [.i .i64 0, .i .u64 0]⟩,
         ⟨none, none, .store 2 (.t 5) (.t 12)⟩] false [])
        (.keep [3, 5, 7, 8, 9] (.seq
        (.region [⟨some 13, none, .faddr 0 (.t 5)⟩,
         ⟨some 14, none, .load 1 false (.t 13)⟩,
         ⟨some 15, none, .mov (.c (.d (.i .i64 0)))⟩] false [])
        (.keep [3, 5, 7, 8, 9, 14, 15] (.block 2 (.loop [3, 5, 7, 8, 9, 14, 15] false F202_elf_laid_own_b1)))))))
       (.keep [3, 7, 8, 9] (.region [⟨some 28, none, .bin .add (.t 9) (.c (.d (.i .i64 1)))⟩,
        ⟨some 9, none, .mov (.t 28)⟩] false []))))))
/-- spindle/elf.laid!own -/
def F202_elf_laid_own : SFn := ⟨1, false, false, [.tmp 2],
  .seq
   (.region [⟨some 2, none, .mov (.c (.d (.sl 0 false [])))⟩] false [])
   (.keep [0] (.seq
   (.region [⟨some 3, none, .tok 1 (.c (.d (.sl 0 false [])))⟩] false [])
   (.keep [0, 3] (.seq
    (.seq
    (.region [⟨some 7, none, .mov (.t 0)⟩,
     ⟨some 8, none, .len false (.t 7)⟩,
     ⟨some 9, none, .mov (.c (.d (.i .i64 0)))⟩] false [])
    (.keep [3, 7, 8, 9] (.block 0 (.loop [3, 7, 8, 9] true F202_elf_laid_own_b0))))
    (.keep [3] (.seq
    (.region [⟨some 29, none, .mov (.t 3)⟩,
     ⟨some 2, none, .mov (.t 29)⟩] false [])
    (.ret)))))))⟩
end Go.Sh
