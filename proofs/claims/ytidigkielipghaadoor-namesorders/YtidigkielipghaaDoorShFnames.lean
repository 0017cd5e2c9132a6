/- Shadow functions of names, written by tr.py. -/
import Derived.Test.YtidigkielipghaaDoorShBa
namespace Go.Sh
def F320_names_Merge_b0 : SCode :=
  .seq
      (.region [⟨some 26, none, .bin .lss (.t 25) (.t 24)⟩] false [])
      (.keep [0, 2, 23, 24, 25, 26] (.seq
      (.cond (.t 26)
       (.skip)
       (.exit 0))
      (.keep [0, 2, 23, 24, 25] (.seq
       (.block 1 (.seq
        (.region [⟨some 27, none, .iaddr 5 (.t 23) (.t 25)⟩,
         ⟨some 28, none, .load 5 true (.t 27)⟩,
         ⟨some 6, none, .alloc [.sl 0 false [], .sl 0 false [], .sl 0 false [], .sl 0 false [], .sl 0 false []]⟩,
         ⟨none, none, .store 5 (.t 6) (.t 28)⟩] false [])
        (.keep [0, 2, 6, 23, 24, 25] (.seq
        (.region [⟨some 30, none, .load 5 true (.t 6)⟩,
         ⟨some 31, none, .call 330 [.t 30]⟩,
         ⟨some 29, none, .mov (.t 31)⟩,
         ⟨some 32, none, .extract 0 (.t 29)⟩,
         ⟨some 33, none, .extract 1 (.t 29)⟩,
         ⟨some 7, none, .mov (.t 32)⟩,
         ⟨some 8, none, .mov (.t 33)⟩] false [])
        (.keep [0, 2, 8, 23, 24, 25] (.seq
         (.region [⟨some 34, none, .mov (.t 8)⟩,
          ⟨some 35, none, .bin .neq (.t 34) (.c (.d (.i .i64 0)))⟩] false [])
         (.keep [0, 2, 23, 24, 25, 35] (.cond (.t 35)
         (.keep [2] (.seq
          (.region [⟨some 36, none, .build [.sl 0 false [], .sl 0 false []] []⟩,
           ⟨none, none, .store 2 (.t 2) (.t 36)⟩,
           ⟨some 3, none, .mov (.c (.d (.s [])))⟩,
           ⟨some 4, none, .mov (.c (.d (.i .i64 161)))⟩] false [])
          (.ret)))
         (.skip)))))))))
       (.keep [0, 2, 23, 24, 25] (.region [⟨some 37, none, .bin .add (.t 25) (.c (.d (.i .i64 1)))⟩,
        ⟨some 25, none, .mov (.t 37)⟩] false []))))))
def F320_names_Merge_b2 : SCode :=
  .seq
           (.region [⟨some 55, none, .bin .lss (.t 54) (.t 53)⟩] false [])
           (.keep [2, 9, 10, 12, 46, 47, 48, 52, 53, 54, 55] (.seq
            (.cond (.t 55)
            (.skip)
            (.exit 4))
            (.keep [2, 9, 10, 12, 46, 47, 48, 52, 53, 54] (.seq
            (.block 5 (.seq
             (.region [⟨some 56, none, .iaddr 1 (.t 52) (.t 54)⟩,
              ⟨some 57, none, .load 1 false (.t 56)⟩,
              ⟨some 14, none, .mov (.t 57)⟩] false [])
             (.keep [2, 9, 10, 12, 14, 46, 47, 48, 52, 53, 54] (.seq
              (.region [⟨some 58, none, .faddr 0 (.t 12)⟩,
               ⟨some 59, none, .load 1 false (.t 58)⟩,
               ⟨some 60, none, .mov (.t 9)⟩,
               ⟨some 61, none, .mov (.t 14)⟩,
               ⟨some 62, none, .look true false [.np] false (.t 60) (.t 61)⟩,
               ⟨some 63, none, .callC [334, 335, 336] (.t 59) [.t 62]⟩] false [])
              (.keep [2, 9, 10, 12, 14, 46, 47, 48, 52, 53, 54, 63] (.cond (.t 63)
              (.keep [2, 12, 14] (.seq
               (.region [⟨some 64, none, .build [.sl 0 false [], .sl 0 false []] []⟩,
                ⟨some 65, none, .mov (.t 14)⟩,
                ⟨some 66, none, .faddr 1 (.t 12)⟩,
                ⟨some 67, none, .load 1 false (.t 66)⟩,
                ⟨none, none, .storeX 2 (.t 2) (.t 64) [66]⟩,
                ⟨some 3, none, .mov (.t 65)⟩,
                ⟨some 4, none, .mov (.t 67)⟩] true [0, 0, 0, 4, 1, 19, 63])
               (.ret)))
              (.skip)))))))
            (.keep [2, 9, 10, 12, 46, 47, 48, 52, 53, 54] (.region [⟨some 68, none, .bin .add (.t 54) (.c (.d (.i .i64 1)))⟩,
             ⟨some 54, none, .mov (.t 68)⟩] false []))))))
def F320_names_Merge_b1 : SCode :=
  .seq
       (.region [⟨some 49, none, .bin .lss (.t 48) (.t 47)⟩] false [])
       (.keep [2, 9, 10, 46, 47, 48, 49] (.seq
        (.cond (.t 49)
        (.skip)
        (.exit 2))
        (.keep [2, 9, 10, 46, 47, 48] (.seq
        (.block 3 (.seq
         (.region [⟨some 50, none, .iaddr 2 (.t 46) (.t 48)⟩,
          ⟨some 51, none, .load 2 true (.t 50)⟩,
          ⟨some 12, none, .alloc [.nf, .i .i64 0]⟩,
          ⟨none, none, .store 2 (.t 12) (.t 51)⟩] false [])
         (.keep [2, 9, 10, 12, 46, 47, 48] (.seq
          (.region [⟨some 52, none, .mov (.t 10)⟩,
           ⟨some 53, none, .len false (.t 52)⟩,
           ⟨some 54, none, .mov (.c (.d (.i .i64 0)))⟩] false [])
          (.keep [2, 9, 10, 12, 46, 47, 48, 52, 53, 54] (.block 4 (.loop [2, 9, 10, 12, 46, 47, 48, 52, 53, 54] false F320_names_Merge_b2)))))))
        (.keep [2, 9, 10, 46, 47, 48] (.region [⟨some 69, none, .bin .add (.t 48) (.c (.d (.i .i64 1)))⟩,
         ⟨some 48, none, .mov (.t 69)⟩] false []))))))
def F320_names_Merge_b3 : SCode :=
  .seq
        (.region [⟨some 73, none, .bin .lss (.t 72) (.t 71)⟩] false [])
        (.keep [2, 9, 15, 70, 71, 72, 73] (.seq
         (.cond (.t 73)
         (.skip)
         (.exit 6))
         (.keep [2, 9, 15, 70, 71, 72] (.seq
         (.block 7 (.seq
          (.region [⟨some 74, none, .iaddr 1 (.t 70) (.t 72)⟩,
           ⟨some 75, none, .load 1 false (.t 74)⟩,
           ⟨some 17, none, .mov (.t 75)⟩] false [])
          (.keep [2, 9, 15, 17, 70, 71, 72] (.seq
           (.region [⟨some 76, none, .mov (.t 9)⟩,
            ⟨some 77, none, .mov (.t 17)⟩,
            ⟨some 78, none, .look true false [.np] false (.t 76) (.t 77)⟩,
            ⟨some 18, none, .mov (.t 78)⟩] false [])
           (.keep [2, 9, 15, 18, 70, 71, 72] (.seq
           (.region [⟨some 79, none, .faddr 0 (.t 15)⟩,
            ⟨some 80, none, .load 1 false (.t 79)⟩,
            ⟨some 81, none, .mov (.t 18)⟩,
            ⟨some 82, none, .nilChk (.t 81)⟩,
            ⟨some 83, none, .faddr 0 (.t 82)⟩,
            ⟨some 84, none, .load 1 false (.t 83)⟩,
            ⟨some 85, none, .app 3 32 (.t 80) (.t 84)⟩,
            ⟨some 86, none, .faddr 0 (.t 15)⟩,
            ⟨none, none, .store 1 (.t 86) (.t 85)⟩] true [0, 1, 0, 4, 12, 28, 63, 127, 255])
           (.keep [2, 9, 15, 18, 70, 71, 72] (.seq
            (.region [⟨some 87, none, .mov (.t 18)⟩,
             ⟨some 88, none, .nilChk (.t 87)⟩,
             ⟨some 89, none, .faddr 1 (.t 88)⟩,
             ⟨some 90, none, .load 1 false (.t 89)⟩,
             ⟨some 91, none, .len false (.t 90)⟩,
             ⟨some 92, none, .bin .gtr (.t 91) (.c (.d (.i .i64 0)))⟩] false [])
            (.keep [2, 9, 15, 18, 70, 71, 72, 92] (.cond (.t 92)
            (.keep [2, 9, 15, 18, 70, 71, 72] (.region [⟨some 93, none, .faddr 1 (.t 15)⟩,
             ⟨some 94, none, .load 1 false (.t 93)⟩,
             ⟨some 95, none, .mov (.t 18)⟩,
             ⟨some 96, none, .nilChk (.t 95)⟩,
             ⟨some 97, none, .faddr 1 (.t 96)⟩,
             ⟨some 98, none, .load 1 false (.t 97)⟩,
             ⟨some 99, none, .iaddr 5 (.t 98) (.c (.d (.i .i64 0)))⟩,
             ⟨some 100, none, .load 5 true (.t 99)⟩,
             ⟨some 101, none, .lits 1 [.s [], .i .i64 0, .i .i64 0, .i .i64 0, .i .i64 0] [(0, 5, .t 100)]⟩,
             ⟨some 102, none, .app 5 48 (.t 94) (.t 101)⟩,
             ⟨some 103, none, .faddr 1 (.t 15)⟩,
             ⟨none, none, .store 1 (.t 103) (.t 102)⟩] true [0, 1, 0, 4, 12, 28, 60, 124, 252, 511, 1023, 2047]))
            (.skip)))))))))))
         (.keep [2, 9, 15, 70, 71, 72] (.region [⟨some 104, none, .bin .add (.t 72) (.c (.d (.i .i64 1)))⟩,
          ⟨some 72, none, .mov (.t 104)⟩] false []))))))
/-- spindle/names.Merge -/
def F320_names_Merge : SFn := ⟨1, true, true, [.cell 2 2 true, .tmp 3, .tmp 4],
  .seq
   (.region [⟨some 2, none, .alloc [.sl 0 false [], .sl 0 false []]⟩,
    ⟨some 3, none, .mov (.c (.d (.s [])))⟩,
    ⟨some 4, none, .mov (.c (.d (.i .i64 0)))⟩] false [])
   (.keep [0, 2] (.seq
   (.seq
    (.region [⟨some 19, none, .mov (.t 0)⟩,
     ⟨some 20, none, .len false (.t 19)⟩,
     ⟨some 21, none, .bin .gtr (.t 20) (.c (.d (.i .i64 64)))⟩] false [])
    (.keep [0, 2, 21] (.cond (.t 21)
    (.keep [2] (.seq
     (.region [⟨some 22, none, .build [.sl 0 false [], .sl 0 false []] []⟩,
      ⟨none, none, .store 2 (.t 2) (.t 22)⟩,
      ⟨some 3, none, .mov (.c (.d (.s [])))⟩,
      ⟨some 4, none, .mov (.c (.d (.i .i64 160)))⟩] false [])
     (.ret)))
    (.skip))))
   (.keep [0, 2] (.seq
    (.seq
    (.region [⟨some 23, none, .mov (.t 0)⟩,
     ⟨some 24, none, .len false (.t 23)⟩,
     ⟨some 25, none, .mov (.c (.d (.i .i64 0)))⟩] false [])
    (.keep [0, 2, 23, 24, 25] (.block 0 (.loop [0, 2, 23, 24, 25] false F320_names_Merge_b0))))
    (.keep [0, 2] (.seq
    (.region [⟨some 38, none, .mov (.t 0)⟩,
     ⟨some 39, none, .call 331 [.t 38]⟩,
     ⟨some 9, none, .mov (.t 39)⟩] false [])
    (.keep [2, 9] (.seq
     (.region [⟨some 40, none, .mov (.t 9)⟩,
      ⟨some 41, none, .call 332 [.t 40]⟩,
      ⟨some 42, none, .call 333 [.t 41]⟩,
      ⟨some 10, none, .mov (.t 42)⟩] false [])
     (.keep [2, 9, 10] (.seq
     (.seq
      (.region [⟨some 43, none, .build [.nf, .i .i64 0] [(0, 1, .f 334), (1, 1, .c (.d (.i .i64 162)))]⟩,
       ⟨some 44, none, .build [.nf, .i .i64 0] [(0, 1, .f 335), (1, 1, .c (.d (.i .i64 163)))]⟩,
       ⟨some 45, none, .build [.nf, .i .i64 0] [(0, 1, .f 336), (1, 1, .c (.d (.i .i64 164)))]⟩,
       ⟨some 46, none, .litsR 3 [.nf, .i .i64 0] [(0, 2, .t 43), (2, 2, .t 44), (4, 2, .t 45)]⟩,
       ⟨some 47, none, .len false (.t 46)⟩,
       ⟨some 48, none, .mov (.c (.d (.i .i64 0)))⟩] false [])
      (.keep [2, 9, 10, 46, 47, 48] (.block 2 (.loop [2, 9, 10, 46, 47, 48] false F320_names_Merge_b1))))
     (.keep [2, 9, 10] (.seq
      (.region [⟨some 15, none, .alloc [.sl 0 false [], .sl 0 false []]⟩] false [])
      (.keep [2, 9, 10, 15] (.seq
      (.seq
       (.region [⟨some 70, none, .mov (.t 10)⟩,
        ⟨some 71, none, .len false (.t 70)⟩,
        ⟨some 72, none, .mov (.c (.d (.i .i64 0)))⟩] false [])
       (.keep [2, 9, 15, 70, 71, 72] (.block 6 (.loop [2, 9, 15, 70, 71, 72] false F320_names_Merge_b3))))
      (.keep [2, 15] (.seq
       (.region [⟨some 105, none, .load 2 true (.t 15)⟩,
        ⟨none, none, .store 2 (.t 2) (.t 105)⟩,
        ⟨some 3, none, .mov (.c (.d (.s [])))⟩,
        ⟨some 4, none, .mov (.c (.d (.i .i64 0)))⟩] false [])
       (.ret)))))))))))))))))⟩

def F331_names_gathered_b1 : SCode :=
  .seq
           (.region [⟨some 28, none, .bin .lss (.t 27) (.t 26)⟩] false [])
           (.keep [3, 4, 5, 6, 17, 18, 19, 25, 26, 27, 28] (.seq
           (.cond (.t 28)
            (.skip)
            (.exit 2))
           (.keep [3, 4, 5, 6, 17, 18, 19, 25, 26, 27] (.seq
            (.block 3 (.seq
             (.region [⟨some 29, none, .mov (.t 27)⟩,
              ⟨some 30, none, .iaddr 4 (.t 25) (.t 27)⟩,
              ⟨some 31, none, .load 4 true (.t 30)⟩,
              ⟨some 8, none, .alloc [.s [], .b false, .i .i64 0, .i .i64 0]⟩,
              ⟨some 7, none, .mov (.t 29)⟩,
              ⟨none, none, .store 4 (.t 8) (.t 31)⟩] false [])
             (.keep [3, 4, 5, 6, 7, 8, 17, 18, 19, 25, 26, 27] (.seq
             (.region [⟨some 32, none, .faddr 1 (.t 8)⟩,
              ⟨some 33, none, .load 1 false (.t 32)⟩] false [])
             (.keep [3, 4, 5, 6, 7, 8, 17, 18, 19, 25, 26, 27, 33] (.cond (.t 33)
              (.keep [3, 4, 5, 6, 7, 8, 17, 18, 19, 25, 26, 27] (.seq
              (.region [⟨some 34, none, .mov (.t 4)⟩,
               ⟨some 35, none, .faddr 0 (.t 8)⟩,
               ⟨some 36, none, .load 1 false (.t 35)⟩,
               ⟨some 37, none, .callC [344] (.t 34) [.t 36]⟩,
               ⟨some 9, none, .mov (.t 37)⟩] false [])
              (.keep [3, 4, 5, 6, 7, 8, 9, 17, 18, 19, 25, 26, 27] (.region [⟨some 38, none, .mov (.t 9)⟩,
               ⟨some 39, none, .mov (.t 9)⟩,
               ⟨some 40, none, .nilChk (.t 39)⟩,
               ⟨some 41, none, .faddr 0 (.t 40)⟩,
               ⟨some 42, none, .load 1 false (.t 41)⟩,
               ⟨some 43, none, .faddr 0 (.t 8)⟩,
               ⟨some 44, none, .load 1 false (.t 43)⟩,
               ⟨some 45, none, .mov (.t 5)⟩,
               ⟨some 46, none, .mov (.t 7)⟩,
               ⟨some 47, none, .build [.s [], .i .i64 0, .i .i64 0] [(0, 1, .t 44), (1, 1, .t 45), (2, 1, .t 46)]⟩,
               ⟨some 48, none, .lits 1 [.s [], .i .i64 0, .i .i64 0] [(0, 3, .t 47)]⟩,
               ⟨some 49, none, .app 3 32 (.t 42) (.t 48)⟩,
               ⟨some 50, none, .nilChk (.t 38)⟩,
               ⟨some 51, none, .faddr 0 (.t 50)⟩,
               ⟨none, none, .store 1 (.t 51) (.t 49)⟩] true [0, 0, 2, 6, 14, 0, 32, 0, 0, 480, 992, 2046, 4095, 8191, 16383]))))
              (.skip)))))))
            (.keep [3, 4, 5, 6, 17, 18, 19, 25, 26, 27] (.region [⟨some 52, none, .bin .add (.t 27) (.c (.d (.i .i64 1)))⟩,
             ⟨some 27, none, .mov (.t 52)⟩] false []))))))
def F331_names_gathered_b2 : SCode :=
  .seq
           (.region [⟨some 57, none, .bin .lss (.t 56) (.t 55)⟩] false [])
           (.keep [3, 4, 6, 17, 18, 19, 54, 55, 56, 57] (.seq
            (.cond (.t 57)
            (.skip)
            (.exit 4))
            (.keep [3, 4, 6, 17, 18, 19, 54, 55, 56] (.seq
            (.block 5 (.seq
             (.region [⟨some 58, none, .iaddr 5 (.t 54) (.t 56)⟩,
              ⟨some 59, none, .load 5 true (.t 58)⟩,
              ⟨some 11, none, .alloc [.s [], .i .i64 0, .i .i64 0, .i .i64 0, .i .i64 0]⟩,
              ⟨none, none, .store 5 (.t 11) (.t 59)⟩] false [])
             (.keep [3, 4, 6, 11, 17, 18, 19, 54, 55, 56] (.seq
              (.region [⟨some 60, none, .mov (.t 4)⟩,
               ⟨some 61, none, .faddr 0 (.t 11)⟩,
               ⟨some 62, none, .load 1 false (.t 61)⟩,
               ⟨some 63, none, .callC [344] (.t 60) [.t 62]⟩,
               ⟨some 12, none, .mov (.t 63)⟩] false [])
              (.keep [3, 4, 6, 11, 12, 17, 18, 19, 54, 55, 56] (.region [⟨some 64, none, .mov (.t 12)⟩,
               ⟨some 65, none, .mov (.t 12)⟩,
               ⟨some 66, none, .nilChk (.t 65)⟩,
               ⟨some 67, none, .faddr 1 (.t 66)⟩,
               ⟨some 68, none, .load 1 false (.t 67)⟩,
               ⟨some 69, none, .load 5 true (.t 11)⟩,
               ⟨some 70, none, .lits 1 [.s [], .i .i64 0, .i .i64 0, .i .i64 0, .i .i64 0] [(0, 5, .t 69)]⟩,
               ⟨some 71, none, .app 5 48 (.t 68) (.t 70)⟩,
               ⟨some 72, none, .nilChk (.t 64)⟩,
               ⟨some 73, none, .faddr 1 (.t 72)⟩,
               ⟨none, none, .store 1 (.t 73) (.t 71)⟩] true [0, 0, 2, 6, 14, 0, 32, 126, 255, 511, 1023]))))))
            (.keep [3, 4, 6, 17, 18, 19, 54, 55, 56] (.region [⟨some 74, none, .bin .add (.t 56) (.c (.d (.i .i64 1)))⟩,
             ⟨some 56, none, .mov (.t 74)⟩] false []))))))
def F331_names_gathered_b3 : SCode :=
  .seq
           (.region [⟨some 79, none, .bin .lss (.t 78) (.t 77)⟩] false [])
           (.keep [3, 4, 17, 18, 19, 76, 77, 78, 79] (.seq
            (.cond (.t 79)
            (.skip)
            (.exit 6))
            (.keep [3, 4, 17, 18, 19, 76, 77, 78] (.seq
            (.block 7 (.seq
             (.region [⟨some 80, none, .iaddr 1 (.t 76) (.t 78)⟩,
              ⟨some 81, none, .load 1 false (.t 80)⟩,
              ⟨some 14, none, .mov (.t 81)⟩] false [])
             (.keep [3, 4, 14, 17, 18, 19, 76, 77, 78] (.region [⟨some 82, none, .mov (.t 4)⟩,
              ⟨some 83, none, .mov (.t 14)⟩,
              ⟨some 84, none, .callC [344] (.t 82) [.t 83]⟩,
              ⟨some 85, none, .nilChk (.t 84)⟩,
              ⟨some 86, none, .faddr 2 (.t 85)⟩,
              ⟨none, none, .store 1 (.t 86) (.c (.d (.b true)))⟩] false []))))
            (.keep [3, 4, 17, 18, 19, 76, 77, 78] (.region [⟨some 87, none, .bin .add (.t 78) (.c (.d (.i .i64 1)))⟩,
             ⟨some 78, none, .mov (.t 87)⟩] false []))))))
def F331_names_gathered_b0 : SCode :=
  .seq
      (.region [⟨some 20, none, .bin .lss (.t 19) (.t 18)⟩] false [])
      (.keep [3, 4, 17, 18, 19, 20] (.seq
       (.cond (.t 20)
       (.skip)
       (.exit 0))
       (.keep [3, 4, 17, 18, 19] (.seq
       (.block 1 (.seq
        (.region [⟨some 21, none, .mov (.t 19)⟩,
         ⟨some 22, none, .iaddr 5 (.t 17) (.t 19)⟩,
         ⟨some 23, none, .load 5 true (.t 22)⟩,
         ⟨some 6, none, .alloc [.sl 0 false [], .sl 0 false [], .sl 0 false [], .sl 0 false [], .sl 0 false []]⟩,
         ⟨some 5, none, .mov (.t 21)⟩,
         ⟨none, none, .store 5 (.t 6) (.t 23)⟩] false [])
        (.keep [3, 4, 5, 6, 17, 18, 19] (.seq
         (.seq
         (.region [⟨some 24, none, .faddr 1 (.t 6)⟩,
          ⟨some 25, none, .load 1 false (.t 24)⟩,
          ⟨some 26, none, .len false (.t 25)⟩,
          ⟨some 27, none, .mov (.c (.d (.i .i64 0)))⟩] false [])
         (.keep [3, 4, 5, 6, 17, 18, 19, 25, 26, 27] (.block 2 (.loop [3, 4, 5, 6, 17, 18, 19, 25, 26, 27] false F331_names_gathered_b1))))
         (.keep [3, 4, 6, 17, 18, 19] (.seq
         (.seq
          (.region [⟨some 53, none, .faddr 2 (.t 6)⟩,
           ⟨some 54, none, .load 1 false (.t 53)⟩,
           ⟨some 55, none, .len false (.t 54)⟩,
           ⟨some 56, none, .mov (.c (.d (.i .i64 0)))⟩] false [])
          (.keep [3, 4, 6, 17, 18, 19, 54, 55, 56] (.block 4 (.loop [3, 4, 6, 17, 18, 19, 54, 55, 56] false F331_names_gathered_b2))))
         (.keep [3, 4, 6, 17, 18, 19] (.seq
          (.region [⟨some 75, none, .faddr 3 (.t 6)⟩,
           ⟨some 76, none, .load 1 false (.t 75)⟩,
           ⟨some 77, none, .len false (.t 76)⟩,
           ⟨some 78, none, .mov (.c (.d (.i .i64 0)))⟩] false [])
          (.keep [3, 4, 17, 18, 19, 76, 77, 78] (.block 6 (.loop [3, 4, 17, 18, 19, 76, 77, 78] false F331_names_gathered_b3)))))))))))
       (.keep [3, 4, 17, 18, 19] (.region [⟨some 88, none, .bin .add (.t 19) (.c (.d (.i .i64 1)))⟩,
        ⟨some 19, none, .mov (.t 88)⟩] false []))))))
/-- spindle/names.gathered -/
def F331_names_gathered : SFn := ⟨1, false, false, [.tmp 2],
  .seq
   (.region [⟨some 2, none, .mov (.c (.d (.nm)))⟩] false [])
   (.keep [0] (.seq
   (.region [⟨some 15, none, .mkMap none⟩,
    ⟨some 3, none, .alloc [.nm]⟩,
    ⟨none, none, .store 1 (.t 3) (.t 15)⟩] false [])
   (.keep [0, 3] (.seq
    (.region [⟨some 16, none, .mkFn 344 [.t 3]⟩,
     ⟨some 4, none, .mov (.t 16)⟩] false [])
    (.keep [0, 3, 4] (.seq
    (.seq
     (.region [⟨some 17, none, .mov (.t 0)⟩,
      ⟨some 18, none, .len false (.t 17)⟩,
      ⟨some 19, none, .mov (.c (.d (.i .i64 0)))⟩] false [])
     (.keep [3, 4, 17, 18, 19] (.block 0 (.loop [3, 4, 17, 18, 19] false F331_names_gathered_b0))))
    (.keep [3] (.seq
     (.region [⟨some 89, none, .load 1 false (.t 3)⟩,
      ⟨some 2, none, .mov (.t 89)⟩] false [])
     (.ret)))))))))⟩

/-- (*spindle/names.known).twice -/
def F334_names_known_twice : SFn := ⟨1, true, false, [.tmp 2],
  .seq
   (.region [⟨some 2, none, .mov (.c (.d (.b false)))⟩] false [])
   (.keep [0] (.seq
   (.region [⟨some 3, none, .mov (.t 0)⟩,
    ⟨some 4, none, .nilChk (.t 3)⟩,
    ⟨some 5, none, .faddr 0 (.t 4)⟩,
    ⟨some 6, none, .load 1 false (.t 5)⟩,
    ⟨some 7, none, .len false (.t 6)⟩,
    ⟨some 8, none, .bin .gtr (.t 7) (.c (.d (.i .i64 1)))⟩,
    ⟨some 9, none, .mov (.t 8)⟩,
    ⟨some 10, (some (6, false)), .mov (.t 0)⟩,
    ⟨some 11, (some (6, false)), .nilChk (.t 10)⟩,
    ⟨some 12, (some (6, false)), .faddr 0 (.t 11)⟩,
    ⟨some 13, (some (6, false)), .load 1 false (.t 12)⟩,
    ⟨some 14, (some (6, false)), .len false (.t 13)⟩,
    ⟨some 15, (some (6, false)), .bin .eql (.t 14) (.c (.d (.i .i64 1)))⟩,
    ⟨some 16, (some (6, false)), .mov (.t 15)⟩,
    ⟨some 17, (some (13, true)), .mov (.t 0)⟩,
    ⟨some 18, (some (13, true)), .nilChk (.t 17)⟩,
    ⟨some 19, (some (13, true)), .faddr 1 (.t 18)⟩,
    ⟨some 20, (some (13, true)), .load 1 false (.t 19)⟩,
    ⟨some 21, (some (13, true)), .len false (.t 20)⟩,
    ⟨some 22, (some (13, true)), .bin .gtr (.t 21) (.c (.d (.i .i64 0)))⟩,
    ⟨some 23, (some (6, false)), .pick (.t 16) (.t 22) (.c (.d (.b false)))⟩,
    ⟨some 24, none, .pick (.t 9) (.c (.d (.b true))) (.t 23)⟩,
    ⟨some 2, none, .mov (.t 24)⟩] false [])
   (.ret)))⟩

/-- (*spindle/names.known).undefined -/
def F335_names_known_undefined : SFn := ⟨1, true, false, [.tmp 2],
  .seq
   (.region [⟨some 2, none, .mov (.c (.d (.b false)))⟩] false [])
   (.keep [0] (.seq
   (.region [⟨some 3, none, .mov (.t 0)⟩,
    ⟨some 4, none, .nilChk (.t 3)⟩,
    ⟨some 5, none, .faddr 2 (.t 4)⟩,
    ⟨some 6, none, .load 1 false (.t 5)⟩,
    ⟨some 7, none, .mov (.t 6)⟩,
    ⟨some 8, (some (4, true)), .mov (.t 0)⟩,
    ⟨some 9, (some (4, true)), .nilChk (.t 8)⟩,
    ⟨some 10, (some (4, true)), .faddr 0 (.t 9)⟩,
    ⟨some 11, (some (4, true)), .load 1 false (.t 10)⟩,
    ⟨some 12, (some (4, true)), .len false (.t 11)⟩,
    ⟨some 13, (some (4, true)), .bin .eql (.t 12) (.c (.d (.i .i64 0)))⟩,
    ⟨some 14, none, .pick (.t 7) (.t 13) (.c (.d (.b false)))⟩,
    ⟨some 2, none, .mov (.t 14)⟩] false [])
   (.ret)))⟩

/-- (*spindle/names.known).shapes -/
def F336_names_known_shapes : SFn := ⟨1, true, false, [.tmp 2],
  .seq
   (.region [⟨some 1, none, .box (.t 0)⟩,
    ⟨some 2, none, .mov (.c (.d (.b false)))⟩] false [])
   (.keep [1] (.seq
   (.region [⟨some 3, none, .load 1 false (.t 1)⟩,
    ⟨some 4, none, .nilChk (.t 3)⟩,
    ⟨some 5, none, .faddr 1 (.t 4)⟩,
    ⟨some 6, none, .load 1 false (.t 5)⟩,
    ⟨some 7, none, .mkFn 346 [.t 1]⟩,
    ⟨some 8, none, .call 347 [.t 6, .t 7]⟩,
    ⟨some 2, none, .mov (.t 8)⟩] false [])
   (.ret)))⟩

/-- spindle/names.gathered$1 -/
def F344_names_gathered_1 : SFn := ⟨2, false, false, [.tmp 3],
  .seq
   (.region [⟨some 3, none, .mov (.c (.d (.np)))⟩] false [])
   (.keep [0, 1] (.seq
   (.seq
    (.region [⟨some 4, none, .load 1 false (.t 1)⟩,
     ⟨some 5, none, .mov (.t 0)⟩,
     ⟨some 6, none, .look true false [.np] false (.t 4) (.t 5)⟩,
     ⟨some 7, none, .eqv false [12] (.t 6) (.c (.d (.np)))⟩] false [])
    (.keep [0, 1, 7] (.cond (.t 7)
    (.keep [0, 1] (.region [⟨some 8, none, .load 1 false (.t 1)⟩,
     ⟨some 9, none, .mov (.t 0)⟩,
     ⟨some 10, none, .build [.sl 0 false [], .sl 0 false [], .b false] []⟩,
     ⟨some 11, none, .box (.t 10)⟩,
     ⟨none, none, .mapSet true (.t 8) (.t 9) (.t 11)⟩] false []))
    (.skip))))
   (.keep [0, 1] (.seq
    (.region [⟨some 12, none, .load 1 false (.t 1)⟩,
     ⟨some 13, none, .mov (.t 0)⟩,
     ⟨some 14, none, .look true false [.np] false (.t 12) (.t 13)⟩,
     ⟨some 3, none, .mov (.t 14)⟩] false [])
    (.ret)))))⟩

/-- (*spindle/names.known).shapes$1 -/
def F346_names_known_shapes_1 : SFn := ⟨2, true, false, [.tmp 3],
  .seq
   (.region [⟨some 2, none, .box (.t 0)⟩,
    ⟨some 3, none, .mov (.c (.d (.b false)))⟩] false [])
   (.keep [1, 2] (.seq
   (.region [⟨some 4, none, .load 5 true (.t 2)⟩,
    ⟨some 5, none, .load 1 false (.t 1)⟩,
    ⟨some 6, none, .nilChk (.t 5)⟩,
    ⟨some 7, none, .faddr 1 (.t 6)⟩,
    ⟨some 8, none, .load 1 false (.t 7)⟩,
    ⟨some 9, none, .iaddr 5 (.t 8) (.c (.d (.i .i64 0)))⟩,
    ⟨some 10, none, .load 5 true (.t 9)⟩,
    ⟨some 11, none, .eqv true [9, 2, 0, 0, 0, 0] (.t 4) (.t 10)⟩,
    ⟨some 3, none, .mov (.t 11)⟩] true [0, 0, 2, 6, 14, 30, 62, 127, 255])
   (.ret)))⟩
end Go.Sh
