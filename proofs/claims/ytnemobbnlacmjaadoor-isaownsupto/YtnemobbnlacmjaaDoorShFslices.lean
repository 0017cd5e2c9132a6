/- Shadow functions of slices, written by tr.py. -/
import Derived.Test.YtnemobbnlacmjaaDoorShBa
namespace Go.Sh
/-- slices.Contains[[]int,int] -/
def F22_slices_Contains_int_int : SFn := ⟨2, true, true, [.tmp 4],
  .seq
   (.region [⟨some 4, none, .mov (.c (.d (.b false)))⟩] false [])
   (.keep [0, 1] (.seq
   (.region [⟨some 5, none, .mov (.t 0)⟩,
    ⟨some 6, none, .mov (.t 1)⟩,
    ⟨some 7, none, .call 24 [.t 5, .t 6]⟩,
    ⟨some 8, none, .bin .geq (.t 7) (.c (.d (.i .i64 0)))⟩,
    ⟨some 4, none, .mov (.t 8)⟩] false [])
   (.ret)))⟩

def F24_slices_Index_int_int_b0 : SCode :=
  .seq
     (.region [⟨some 9, none, .bin .lss (.t 8) (.t 7)⟩] false [])
     (.keep [0, 1, 7, 8, 9] (.seq
      (.cond (.t 9)
      (.skip)
      (.exit 0))
      (.keep [0, 1, 7, 8] (.seq
      (.block 1 (.seq
       (.region [⟨some 10, none, .mov (.t 8)⟩,
        ⟨some 5, none, .mov (.t 10)⟩] false [])
       (.keep [0, 1, 5, 7, 8] (.seq
        (.region [⟨some 11, none, .mov (.t 1)⟩,
         ⟨some 12, none, .mov (.t 0)⟩,
         ⟨some 13, none, .mov (.t 5)⟩,
         ⟨some 14, none, .iaddr 1 (.t 12) (.t 13)⟩,
         ⟨some 15, none, .load 1 false (.t 14)⟩,
         ⟨some 16, none, .bin .eql (.t 11) (.t 15)⟩] false [])
        (.keep [0, 1, 5, 7, 8, 16] (.cond (.t 16)
        (.keep [5] (.seq
         (.region [⟨some 17, none, .mov (.t 5)⟩,
          ⟨some 4, none, .mov (.t 17)⟩] false [])
         (.ret)))
        (.skip)))))))
      (.keep [0, 1, 7, 8] (.region [⟨some 18, none, .bin .add (.t 8) (.c (.d (.i .i64 1)))⟩,
       ⟨some 8, none, .mov (.t 18)⟩] false []))))))
/-- slices.Index[[]int,int] -/
def F24_slices_Index_int_int : SFn := ⟨2, true, true, [.tmp 4],
  .seq
   (.region [⟨some 4, none, .mov (.c (.d (.i .i64 0)))⟩] false [])
   (.keep [0, 1] (.seq
   (.seq
    (.region [⟨some 6, none, .mov (.t 0)⟩,
     ⟨some 7, none, .len false (.t 6)⟩,
     ⟨some 8, none, .mov (.c (.d (.i .i64 0)))⟩] false [])
    (.keep [0, 1, 7, 8] (.block 0 (.loop [0, 1, 7, 8] false F24_slices_Index_int_int_b0))))
   (.keep [] (.seq
    (.region [⟨some 4, none, .mov (.c (.d (.i .i64 (-1))))⟩] false [])
    (.ret)))))⟩

/-- slices.Sort[[]int,int] -/
def F92_slices_Sort_int_int : SFn := ⟨1, false, false, [],
  .seq
   (.region [⟨some 3, none, .mov (.t 0)⟩,
    ⟨some 4, none, .len false (.t 3)⟩,
    ⟨some 2, none, .mov (.t 4)⟩] false [])
   (.keep [0, 2] (.region [⟨some 5, none, .mov (.t 0)⟩,
    ⟨some 6, none, .mov (.t 2)⟩,
    ⟨some 7, none, .mov (.t 2)⟩,
    ⟨some 8, none, .conv .u64 (.t 7)⟩,
    ⟨some 9, none, .call 97 [.t 8]⟩,
    ⟨some 10, none, .call 98 [.t 5, .c (.d (.i .i64 0)), .t 6, .t 9]⟩] false []))⟩

def F93_slices_Compact_int_int_b1 : SCode :=
  .seq
           (.seq
           (.region [⟨some 29, none, .mov (.t 5)⟩,
            ⟨some 30, none, .mov (.t 4)⟩,
            ⟨some 31, none, .len false (.t 30)⟩,
            ⟨some 32, none, .bin .lss (.t 29) (.t 31)⟩] false [])
           (.keep [0, 3, 4, 5, 32] (.cond (.t 32)
            (.skip)
            (.exit 2))))
           (.keep [0, 3, 4, 5] (.seq
           (.block 3 (.seq
            (.region [⟨some 35, none, .mov (.t 4)⟩,
             ⟨some 36, none, .mov (.t 5)⟩,
             ⟨some 37, none, .iaddr 1 (.t 35) (.t 36)⟩,
             ⟨some 38, none, .load 1 false (.t 37)⟩,
             ⟨some 39, none, .mov (.t 4)⟩,
             ⟨some 40, none, .mov (.t 5)⟩,
             ⟨some 41, none, .bin .sub (.t 40) (.c (.d (.i .i64 1)))⟩,
             ⟨some 42, none, .iaddr 1 (.t 39) (.t 41)⟩,
             ⟨some 43, none, .load 1 false (.t 42)⟩,
             ⟨some 44, none, .bin .neq (.t 38) (.t 43)⟩] true [0, 0, 3, 7, 0, 0, 32, 112, 240, 511])
            (.keep [0, 3, 4, 5, 44] (.cond (.t 44)
             (.keep [0, 3, 4, 5] (.seq
             (.region [⟨some 45, none, .mov (.t 0)⟩,
              ⟨some 46, none, .mov (.t 3)⟩,
              ⟨some 47, none, .mov (.t 4)⟩,
              ⟨some 48, none, .mov (.t 5)⟩,
              ⟨some 49, none, .iaddr 1 (.t 47) (.t 48)⟩,
              ⟨some 50, none, .load 1 false (.t 49)⟩,
              ⟨some 51, none, .iaddr 1 (.t 45) (.t 46)⟩,
              ⟨none, none, .store 1 (.t 51) (.t 50)⟩] false [])
             (.keep [0, 3, 4, 5] (.region [⟨some 52, none, .mov (.t 3)⟩,
              ⟨some 53, none, .bin .add (.t 52) (.c (.d (.i .i64 1)))⟩,
              ⟨some 3, none, .mov (.t 53)⟩] false []))))
             (.skip)))))
           (.keep [0, 3, 4, 5] (.region [⟨some 33, none, .mov (.t 5)⟩,
            ⟨some 34, none, .bin .add (.t 33) (.c (.d (.i .i64 1)))⟩,
            ⟨some 5, none, .mov (.t 34)⟩] false []))))
def F93_slices_Compact_int_int_b0 : SCode :=
  .seq
      (.seq
      (.region [⟨some 10, none, .mov (.t 3)⟩,
       ⟨some 11, none, .mov (.t 0)⟩,
       ⟨some 12, none, .len false (.t 11)⟩,
       ⟨some 13, none, .bin .lss (.t 10) (.t 12)⟩] false [])
      (.keep [0, 3, 13] (.cond (.t 13)
       (.skip)
       (.exit 0))))
      (.keep [0, 3] (.seq
      (.block 1 (.seq
       (.region [⟨some 16, none, .mov (.t 0)⟩,
        ⟨some 17, none, .mov (.t 3)⟩,
        ⟨some 18, none, .iaddr 1 (.t 16) (.t 17)⟩,
        ⟨some 19, none, .load 1 false (.t 18)⟩,
        ⟨some 20, none, .mov (.t 0)⟩,
        ⟨some 21, none, .mov (.t 3)⟩,
        ⟨some 22, none, .bin .sub (.t 21) (.c (.d (.i .i64 1)))⟩,
        ⟨some 23, none, .iaddr 1 (.t 20) (.t 22)⟩,
        ⟨some 24, none, .load 1 false (.t 23)⟩,
        ⟨some 25, none, .bin .eql (.t 19) (.t 24)⟩] true [0, 0, 3, 7, 0, 0, 32, 112, 240, 511])
       (.keep [0, 3, 25] (.cond (.t 25)
        (.keep [0, 3] (.seq
        (.region [⟨some 26, none, .mov (.t 0)⟩,
         ⟨some 27, none, .mov (.t 3)⟩,
         ⟨some 28, none, .slc 1 (.t 26) (some (.t 27)) none none⟩,
         ⟨some 4, none, .mov (.t 28)⟩] false [])
        (.keep [0, 3, 4] (.seq
         (.seq
         (.region [⟨some 5, none, .mov (.c (.d (.i .i64 1)))⟩] false [])
         (.keep [0, 3, 4, 5] (.block 2 (.loop [0, 3, 4, 5] false F93_slices_Compact_int_int_b1))))
         (.keep [0, 3] (.seq
         (.region [⟨some 54, none, .mov (.t 0)⟩,
          ⟨some 55, none, .mov (.t 3)⟩,
          ⟨some 56, none, .slc 1 (.t 54) (some (.t 55)) none none⟩,
          ⟨none, none, .clr 1 [.i .i64 0] (.t 56)⟩] false [])
         (.keep [0, 3] (.seq
          (.region [⟨some 57, none, .mov (.t 0)⟩,
           ⟨some 58, none, .mov (.t 3)⟩,
           ⟨some 59, none, .slc 1 (.t 57) none (some (.t 58)) none⟩,
           ⟨some 2, none, .mov (.t 59)⟩] false [])
          (.ret)))))))))
        (.skip)))))
      (.keep [0, 3] (.region [⟨some 14, none, .mov (.t 3)⟩,
       ⟨some 15, none, .bin .add (.t 14) (.c (.d (.i .i64 1)))⟩,
       ⟨some 3, none, .mov (.t 15)⟩] false []))))
/-- slices.Compact[[]int,int] -/
def F93_slices_Compact_int_int : SFn := ⟨1, false, false, [.tmp 2],
  .seq
   (.region [⟨some 2, none, .mov (.c (.d (.sl 0 false [])))⟩] false [])
   (.keep [0] (.seq
   (.seq
    (.region [⟨some 6, none, .mov (.t 0)⟩,
     ⟨some 7, none, .len false (.t 6)⟩,
     ⟨some 8, none, .bin .lss (.t 7) (.c (.d (.i .i64 2)))⟩] false [])
    (.keep [0, 8] (.cond (.t 8)
    (.keep [0] (.seq
     (.region [⟨some 9, none, .mov (.t 0)⟩,
      ⟨some 2, none, .mov (.t 9)⟩] false [])
     (.ret)))
    (.skip))))
   (.keep [0] (.seq
    (.seq
    (.region [⟨some 3, none, .mov (.c (.d (.i .i64 1)))⟩] false [])
    (.keep [0, 3] (.block 0 (.loop [0, 3] false F93_slices_Compact_int_int_b0))))
    (.keep [0] (.seq
    (.region [⟨some 60, none, .mov (.t 0)⟩,
     ⟨some 2, none, .mov (.t 60)⟩] false [])
    (.ret)))))))⟩

def F98_slices_pdqsortOrdered_int_b0 : SCode :=
  .block 1 (.seq
     (.region [⟨some 19, none, .mov (.t 2)⟩,
      ⟨some 20, none, .mov (.t 1)⟩,
      ⟨some 21, none, .bin .sub (.t 19) (.t 20)⟩,
      ⟨some 10, none, .mov (.t 21)⟩] false [])
     (.keep [0, 1, 2, 3, 8, 9, 10] (.seq
      (.seq
      (.region [⟨some 22, none, .mov (.t 10)⟩,
       ⟨some 23, none, .bin .leq (.t 22) (.c (.d (.i .i64 12)))⟩] false [])
      (.keep [0, 1, 2, 3, 8, 9, 10, 23] (.cond (.t 23)
       (.keep [0, 1, 2] (.seq
       (.region [⟨some 24, none, .mov (.t 0)⟩,
        ⟨some 25, none, .mov (.t 1)⟩,
        ⟨some 26, none, .mov (.t 2)⟩,
        ⟨some 27, none, .call 99 [.t 24, .t 25, .t 26]⟩] false [])
       (.ret)))
       (.skip))))
      (.keep [0, 1, 2, 3, 8, 9, 10] (.seq
      (.seq
       (.region [⟨some 28, none, .mov (.t 3)⟩,
        ⟨some 29, none, .bin .eql (.t 28) (.c (.d (.i .i64 0)))⟩] false [])
       (.keep [0, 1, 2, 3, 8, 9, 10, 29] (.cond (.t 29)
       (.keep [0, 1, 2] (.seq
        (.region [⟨some 30, none, .mov (.t 0)⟩,
         ⟨some 31, none, .mov (.t 1)⟩,
         ⟨some 32, none, .mov (.t 2)⟩,
         ⟨some 33, none, .call 100 [.t 30, .t 31, .t 32]⟩] false [])
        (.ret)))
       (.skip))))
      (.keep [0, 1, 2, 3, 8, 9, 10] (.seq
       (.seq
       (.region [⟨some 34, none, .mov (.t 8)⟩,
        ⟨some 35, none, .un .not (.t 34)⟩] false [])
       (.keep [0, 1, 2, 3, 8, 9, 10, 35] (.cond (.t 35)
        (.keep [0, 1, 2, 3, 8, 9, 10] (.seq
        (.region [⟨some 36, none, .mov (.t 0)⟩,
         ⟨some 37, none, .mov (.t 1)⟩,
         ⟨some 38, none, .mov (.t 2)⟩,
         ⟨some 39, none, .call 101 [.t 36, .t 37, .t 38]⟩] false [])
        (.keep [0, 1, 2, 3, 8, 9, 10] (.region [⟨some 40, none, .mov (.t 3)⟩,
         ⟨some 41, none, .bin .sub (.t 40) (.c (.d (.i .i64 1)))⟩,
         ⟨some 3, none, .mov (.t 41)⟩] false []))))
        (.skip))))
       (.keep [0, 1, 2, 3, 8, 9, 10] (.seq
       (.region [⟨some 43, none, .mov (.t 0)⟩,
        ⟨some 44, none, .mov (.t 1)⟩,
        ⟨some 45, none, .mov (.t 2)⟩,
        ⟨some 46, none, .call 102 [.t 43, .t 44, .t 45]⟩,
        ⟨some 42, none, .mov (.t 46)⟩,
        ⟨some 47, none, .extract 0 (.t 42)⟩,
        ⟨some 48, none, .extract 1 (.t 42)⟩,
        ⟨some 11, none, .mov (.t 47)⟩,
        ⟨some 12, none, .mov (.t 48)⟩] false [])
       (.keep [0, 1, 2, 3, 8, 9, 10, 11, 12] (.seq
        (.seq
        (.region [⟨some 49, none, .mov (.t 12)⟩,
         ⟨some 50, none, .bin .eql (.t 49) (.c (.d (.i .i64 2)))⟩] false [])
        (.keep [0, 1, 2, 3, 8, 9, 10, 11, 12, 50] (.cond (.t 50)
         (.keep [0, 1, 2, 3, 8, 9, 10, 11] (.seq
         (.region [⟨some 51, none, .mov (.t 0)⟩,
          ⟨some 52, none, .mov (.t 1)⟩,
          ⟨some 53, none, .mov (.t 2)⟩,
          ⟨some 54, none, .call 103 [.t 51, .t 52, .t 53]⟩] false [])
         (.keep [0, 1, 2, 3, 8, 9, 10, 11] (.seq
          (.region [⟨some 55, none, .mov (.t 2)⟩,
           ⟨some 56, none, .bin .sub (.t 55) (.c (.d (.i .i64 1)))⟩,
           ⟨some 57, none, .mov (.t 11)⟩,
           ⟨some 58, none, .mov (.t 1)⟩,
           ⟨some 59, none, .bin .sub (.t 57) (.t 58)⟩,
           ⟨some 60, none, .bin .sub (.t 56) (.t 59)⟩,
           ⟨some 11, none, .mov (.t 60)⟩] false [])
          (.keep [0, 1, 2, 3, 8, 9, 10, 11] (.region [⟨some 12, none, .mov (.c (.d (.i .i64 1)))⟩] false []))))))
         (.skip))))
        (.keep [0, 1, 2, 3, 8, 9, 10, 11, 12] (.seq
        (.seq
         (.region [⟨some 61, none, .mov (.t 8)⟩,
          ⟨some 62, none, .mov (.t 61)⟩,
          ⟨some 63, (some (1, true)), .mov (.t 9)⟩,
          ⟨some 64, none, .pick (.t 62) (.t 63) (.c (.d (.b false)))⟩,
          ⟨some 65, none, .mov (.t 64)⟩,
          ⟨some 66, (some (4, true)), .mov (.t 12)⟩,
          ⟨some 67, (some (4, true)), .bin .eql (.t 66) (.c (.d (.i .i64 1)))⟩,
          ⟨some 68, none, .pick (.t 65) (.t 67) (.c (.d (.b false)))⟩] false [])
         (.keep [0, 1, 2, 3, 8, 9, 10, 11, 68] (.cond (.t 68)
         (.keep [0, 1, 2, 3, 8, 9, 10, 11] (.seq
          (.region [⟨some 69, none, .mov (.t 0)⟩,
           ⟨some 70, none, .mov (.t 1)⟩,
           ⟨some 71, none, .mov (.t 2)⟩,
           ⟨some 72, none, .call 104 [.t 69, .t 70, .t 71]⟩] false [])
          (.keep [0, 1, 2, 3, 8, 9, 10, 11, 72] (.cond (.t 72)
          (.ret)
          (.skip)))))
         (.skip))))
        (.keep [0, 1, 2, 3, 8, 9, 10, 11] (.seq
         (.seq
         (.region [⟨some 73, none, .mov (.t 1)⟩,
          ⟨some 74, none, .bin .gtr (.t 73) (.c (.d (.i .i64 0)))⟩,
          ⟨some 75, none, .mov (.t 74)⟩,
          ⟨some 76, (some (2, true)), .mov (.t 0)⟩,
          ⟨some 77, (some (2, true)), .mov (.t 1)⟩,
          ⟨some 78, (some (2, true)), .bin .sub (.t 77) (.c (.d (.i .i64 1)))⟩,
          ⟨some 79, (some (2, true)), .iaddr 1 (.t 76) (.t 78)⟩,
          ⟨some 80, (some (2, true)), .load 1 false (.t 79)⟩,
          ⟨some 81, (some (2, true)), .mov (.t 0)⟩,
          ⟨some 82, (some (2, true)), .mov (.t 11)⟩,
          ⟨some 83, (some (2, true)), .iaddr 1 (.t 81) (.t 82)⟩,
          ⟨some 84, (some (2, true)), .load 1 false (.t 83)⟩,
          ⟨some 85, (some (2, true)), .call 105 [.t 80, .t 84]⟩,
          ⟨some 86, (some (2, true)), .un .not (.t 85)⟩,
          ⟨some 87, none, .pick (.t 75) (.t 86) (.c (.d (.b false)))⟩] true [0, 1, 3, 7, 7, 23, 63, 127, 7, 7, 775, 1799, 4095, 8191, 16383])
         (.keep [0, 1, 2, 3, 8, 9, 10, 11, 87] (.cond (.t 87)
          (.keep [0, 1, 2, 3, 8, 9, 11] (.seq
          (.region [⟨some 88, none, .mov (.t 0)⟩,
           ⟨some 89, none, .mov (.t 1)⟩,
           ⟨some 90, none, .mov (.t 2)⟩,
           ⟨some 91, none, .mov (.t 11)⟩,
           ⟨some 92, none, .call 106 [.t 88, .t 89, .t 90, .t 91]⟩,
           ⟨some 13, none, .mov (.t 92)⟩] false [])
          (.keep [0, 2, 3, 8, 9, 13] (.seq
           (.region [⟨some 93, none, .mov (.t 13)⟩,
            ⟨some 1, none, .mov (.t 93)⟩] false [])
           (.exit 1)))))
          (.skip))))
         (.keep [0, 1, 2, 3, 10, 11] (.seq
         (.region [⟨some 95, none, .mov (.t 0)⟩,
          ⟨some 96, none, .mov (.t 1)⟩,
          ⟨some 97, none, .mov (.t 2)⟩,
          ⟨some 98, none, .mov (.t 11)⟩,
          ⟨some 99, none, .call 107 [.t 95, .t 96, .t 97, .t 98]⟩,
          ⟨some 94, none, .mov (.t 99)⟩,
          ⟨some 100, none, .extract 0 (.t 94)⟩,
          ⟨some 101, none, .extract 1 (.t 94)⟩,
          ⟨some 14, none, .mov (.t 100)⟩,
          ⟨some 15, none, .mov (.t 101)⟩] false [])
         (.keep [0, 1, 2, 3, 10, 14, 15] (.seq
          (.region [⟨some 102, none, .mov (.t 15)⟩,
           ⟨some 9, none, .mov (.t 102)⟩] false [])
          (.keep [0, 1, 2, 3, 9, 10, 14] (.seq
          (.region [⟨some 103, none, .mov (.t 14)⟩,
           ⟨some 104, none, .mov (.t 1)⟩,
           ⟨some 105, none, .bin .sub (.t 103) (.t 104)⟩,
           ⟨some 106, none, .mov (.t 2)⟩,
           ⟨some 107, none, .mov (.t 14)⟩,
           ⟨some 108, none, .bin .sub (.t 106) (.t 107)⟩,
           ⟨some 16, none, .mov (.t 105)⟩,
           ⟨some 17, none, .mov (.t 108)⟩] false [])
          (.keep [0, 1, 2, 3, 9, 10, 14, 16, 17] (.seq
           (.region [⟨some 109, none, .mov (.t 10)⟩,
            ⟨some 110, none, .bin .quo (.t 109) (.c (.d (.i .i64 8)))⟩,
            ⟨some 18, none, .mov (.t 110)⟩] false [])
           (.keep [0, 1, 2, 3, 9, 14, 16, 17, 18] (.seq
           (.region [⟨some 111, none, .mov (.t 16)⟩,
            ⟨some 112, none, .mov (.t 17)⟩,
            ⟨some 113, none, .bin .lss (.t 111) (.t 112)⟩] false [])
           (.keep [0, 1, 2, 3, 9, 14, 16, 17, 18, 113] (.cond (.t 113)
            (.keep [0, 1, 2, 3, 9, 14, 16, 18] (.seq
            (.region [⟨some 114, none, .mov (.t 16)⟩,
             ⟨some 115, none, .mov (.t 18)⟩,
             ⟨some 116, none, .bin .geq (.t 114) (.t 115)⟩,
             ⟨some 8, none, .mov (.t 116)⟩] false [])
            (.keep [0, 1, 2, 3, 8, 9, 14] (.seq
             (.region [⟨some 117, none, .mov (.t 0)⟩,
              ⟨some 118, none, .mov (.t 1)⟩,
              ⟨some 119, none, .mov (.t 14)⟩,
              ⟨some 120, none, .mov (.t 3)⟩,
              ⟨some 121, none, .call 98 [.t 117, .t 118, .t 119, .t 120]⟩] false [])
             (.keep [0, 2, 3, 8, 9, 14] (.region [⟨some 122, none, .mov (.t 14)⟩,
              ⟨some 123, none, .bin .add (.t 122) (.c (.d (.i .i64 1)))⟩,
              ⟨some 1, none, .mov (.t 123)⟩] false []))))))
            (.keep [0, 1, 2, 3, 9, 14, 17, 18] (.seq
            (.region [⟨some 124, none, .mov (.t 17)⟩,
             ⟨some 125, none, .mov (.t 18)⟩,
             ⟨some 126, none, .bin .geq (.t 124) (.t 125)⟩,
             ⟨some 8, none, .mov (.t 126)⟩] false [])
            (.keep [0, 1, 2, 3, 8, 9, 14] (.seq
             (.region [⟨some 127, none, .mov (.t 0)⟩,
              ⟨some 128, none, .mov (.t 14)⟩,
              ⟨some 129, none, .bin .add (.t 128) (.c (.d (.i .i64 1)))⟩,
              ⟨some 130, none, .mov (.t 2)⟩,
              ⟨some 131, none, .mov (.t 3)⟩,
              ⟨some 132, none, .call 98 [.t 127, .t 129, .t 130, .t 131]⟩] false [])
             (.keep [0, 1, 3, 8, 9, 14] (.region [⟨some 133, none, .mov (.t 14)⟩,
              ⟨some 2, none, .mov (.t 133)⟩] false [])))))))))))))))))))))))))))))))))
/-- slices.pdqsortOrdered[int] -/
def F98_slices_pdqsortOrdered_int : SFn := ⟨4, false, false, [],
  .seq
   (.region [⟨some 8, none, .mov (.c (.d (.b true)))⟩] false [])
   (.keep [0, 1, 2, 3, 8] (.seq
   (.region [⟨some 9, none, .mov (.c (.d (.b true)))⟩] false [])
   (.keep [0, 1, 2, 3, 8, 9] (.block 0 (.loop [0, 1, 2, 3, 8, 9] false F98_slices_pdqsortOrdered_int_b0)))))⟩

def F99_slices_insertionSortOrdered_int_b1 : SCode :=
  .seq
       (.seq
        (.region [⟨some 16, none, .mov (.t 7)⟩,
         ⟨some 17, none, .mov (.t 1)⟩,
         ⟨some 18, none, .bin .gtr (.t 16) (.t 17)⟩,
         ⟨some 19, none, .mov (.t 18)⟩,
         ⟨some 20, (some (3, true)), .mov (.t 0)⟩,
         ⟨some 21, (some (3, true)), .mov (.t 7)⟩,
         ⟨some 22, (some (3, true)), .iaddr 1 (.t 20) (.t 21)⟩,
         ⟨some 23, (some (3, true)), .load 1 false (.t 22)⟩,
         ⟨some 24, (some (3, true)), .mov (.t 0)⟩,
         ⟨some 25, (some (3, true)), .mov (.t 7)⟩,
         ⟨some 26, (some (3, true)), .bin .sub (.t 25) (.c (.d (.i .i64 1)))⟩,
         ⟨some 27, (some (3, true)), .iaddr 1 (.t 24) (.t 26)⟩,
         ⟨some 28, (some (3, true)), .load 1 false (.t 27)⟩,
         ⟨some 29, (some (3, true)), .call 105 [.t 23, .t 28]⟩,
         ⟨some 30, none, .pick (.t 19) (.t 29) (.c (.d (.b false)))⟩] true [0, 0, 3, 7, 15, 15, 63, 127, 15, 15, 527, 1807, 3855, 8191, 16383])
        (.keep [0, 1, 2, 6, 7, 30] (.cond (.t 30)
        (.skip)
        (.exit 2))))
       (.keep [0, 1, 2, 6, 7] (.seq
        (.block 3 (.region [⟨some 33, none, .mov (.t 0)⟩,
         ⟨some 34, none, .mov (.t 7)⟩,
         ⟨some 35, none, .mov (.t 0)⟩,
         ⟨some 36, none, .mov (.t 7)⟩,
         ⟨some 37, none, .bin .sub (.t 36) (.c (.d (.i .i64 1)))⟩,
         ⟨some 38, none, .mov (.t 0)⟩,
         ⟨some 39, none, .mov (.t 7)⟩,
         ⟨some 40, none, .bin .sub (.t 39) (.c (.d (.i .i64 1)))⟩,
         ⟨some 41, none, .iaddr 1 (.t 38) (.t 40)⟩,
         ⟨some 42, none, .load 1 false (.t 41)⟩,
         ⟨some 43, none, .mov (.t 0)⟩,
         ⟨some 44, none, .mov (.t 7)⟩,
         ⟨some 45, none, .iaddr 1 (.t 43) (.t 44)⟩,
         ⟨some 46, none, .load 1 false (.t 45)⟩,
         ⟨some 47, none, .iaddr 1 (.t 33) (.t 34)⟩,
         ⟨none, none, .store 1 (.t 47) (.t 42)⟩,
         ⟨some 48, none, .iaddr 1 (.t 35) (.t 37)⟩,
         ⟨none, none, .store 1 (.t 48) (.t 46)⟩] true [0, 0, 0, 0, 8, 0, 0, 64, 224, 480, 0, 0, 3072, 7168, 16355, 32739, 65535, 131071]))
        (.keep [0, 1, 2, 6, 7] (.region [⟨some 31, none, .mov (.t 7)⟩,
         ⟨some 32, none, .bin .sub (.t 31) (.c (.d (.i .i64 1)))⟩,
         ⟨some 7, none, .mov (.t 32)⟩] false []))))
def F99_slices_insertionSortOrdered_int_b0 : SCode :=
  .seq
    (.seq
     (.region [⟨some 10, none, .mov (.t 6)⟩,
      ⟨some 11, none, .mov (.t 2)⟩,
      ⟨some 12, none, .bin .lss (.t 10) (.t 11)⟩] false [])
     (.keep [0, 1, 2, 6, 12] (.cond (.t 12)
     (.skip)
     (.exit 0))))
    (.keep [0, 1, 2, 6] (.seq
     (.block 1 (.seq
      (.region [⟨some 15, none, .mov (.t 6)⟩,
       ⟨some 7, none, .mov (.t 15)⟩] false [])
      (.keep [0, 1, 2, 6, 7] (.block 2 (.loop [0, 1, 2, 6, 7] false F99_slices_insertionSortOrdered_int_b1)))))
     (.keep [0, 1, 2, 6] (.region [⟨some 13, none, .mov (.t 6)⟩,
      ⟨some 14, none, .bin .add (.t 13) (.c (.d (.i .i64 1)))⟩,
      ⟨some 6, none, .mov (.t 14)⟩] false []))))
/-- slices.insertionSortOrdered[int] -/
def F99_slices_insertionSortOrdered_int : SFn := ⟨3, false, false, [],
  .seq
   (.region [⟨some 8, none, .mov (.t 1)⟩,
    ⟨some 9, none, .bin .add (.t 8) (.c (.d (.i .i64 1)))⟩,
    ⟨some 6, none, .mov (.t 9)⟩] false [])
   (.keep [0, 1, 2, 6] (.block 0 (.loop [0, 1, 2, 6] false F99_slices_insertionSortOrdered_int_b0)))⟩

def F100_slices_heapSortOrdered_int_b0 : SCode :=
  .seq
      (.seq
       (.region [⟨some 18, none, .mov (.t 9)⟩,
        ⟨some 19, none, .bin .geq (.t 18) (.c (.d (.i .i64 0)))⟩] false [])
       (.keep [0, 6, 7, 8, 9, 19] (.cond (.t 19)
       (.skip)
       (.exit 0))))
      (.keep [0, 6, 7, 8, 9] (.seq
       (.block 1 (.region [⟨some 22, none, .mov (.t 0)⟩,
        ⟨some 23, none, .mov (.t 9)⟩,
        ⟨some 24, none, .mov (.t 8)⟩,
        ⟨some 25, none, .mov (.t 6)⟩,
        ⟨some 26, none, .call 110 [.t 22, .t 23, .t 24, .t 25]⟩] false []))
       (.keep [0, 6, 7, 8, 9] (.region [⟨some 20, none, .mov (.t 9)⟩,
        ⟨some 21, none, .bin .sub (.t 20) (.c (.d (.i .i64 1)))⟩,
        ⟨some 9, none, .mov (.t 21)⟩] false []))))
def F100_slices_heapSortOrdered_int_b1 : SCode :=
  .seq
      (.seq
       (.region [⟨some 29, none, .mov (.t 10)⟩,
        ⟨some 30, none, .bin .geq (.t 29) (.c (.d (.i .i64 0)))⟩] false [])
       (.keep [0, 6, 7, 10, 30] (.cond (.t 30)
       (.skip)
       (.exit 2))))
      (.keep [0, 6, 7, 10] (.seq
       (.block 3 (.seq
        (.region [⟨some 33, none, .mov (.t 0)⟩,
         ⟨some 34, none, .mov (.t 6)⟩,
         ⟨some 35, none, .mov (.t 0)⟩,
         ⟨some 36, none, .mov (.t 6)⟩,
         ⟨some 37, none, .mov (.t 10)⟩,
         ⟨some 38, none, .bin .add (.t 36) (.t 37)⟩,
         ⟨some 39, none, .mov (.t 0)⟩,
         ⟨some 40, none, .mov (.t 6)⟩,
         ⟨some 41, none, .mov (.t 10)⟩,
         ⟨some 42, none, .bin .add (.t 40) (.t 41)⟩,
         ⟨some 43, none, .iaddr 1 (.t 39) (.t 42)⟩,
         ⟨some 44, none, .load 1 false (.t 43)⟩,
         ⟨some 45, none, .mov (.t 0)⟩,
         ⟨some 46, none, .mov (.t 6)⟩,
         ⟨some 47, none, .iaddr 1 (.t 45) (.t 46)⟩,
         ⟨some 48, none, .load 1 false (.t 47)⟩,
         ⟨some 49, none, .iaddr 1 (.t 33) (.t 34)⟩,
         ⟨none, none, .store 1 (.t 49) (.t 44)⟩,
         ⟨some 50, none, .iaddr 1 (.t 35) (.t 38)⟩,
         ⟨none, none, .store 1 (.t 50) (.t 48)⟩] true [0, 0, 0, 0, 0, 24, 0, 0, 0, 384, 960, 1984, 0, 0, 12288, 28672, 65475, 131011, 262143, 524287])
        (.keep [0, 6, 7, 10] (.region [⟨some 51, none, .mov (.t 0)⟩,
         ⟨some 52, none, .mov (.t 7)⟩,
         ⟨some 53, none, .mov (.t 10)⟩,
         ⟨some 54, none, .mov (.t 6)⟩,
         ⟨some 55, none, .call 110 [.t 51, .t 52, .t 53, .t 54]⟩] false []))))
       (.keep [0, 6, 7, 10] (.region [⟨some 31, none, .mov (.t 10)⟩,
        ⟨some 32, none, .bin .sub (.t 31) (.c (.d (.i .i64 1)))⟩,
        ⟨some 10, none, .mov (.t 32)⟩] false []))))
/-- slices.heapSortOrdered[int] -/
def F100_slices_heapSortOrdered_int : SFn := ⟨3, false, false, [],
  .seq
   (.region [⟨some 11, none, .mov (.t 1)⟩,
    ⟨some 6, none, .mov (.t 11)⟩] false [])
   (.keep [0, 1, 2, 6] (.seq
   (.region [⟨some 7, none, .mov (.c (.d (.i .i64 0)))⟩] false [])
   (.keep [0, 1, 2, 6, 7] (.seq
    (.region [⟨some 12, none, .mov (.t 2)⟩,
     ⟨some 13, none, .mov (.t 1)⟩,
     ⟨some 14, none, .bin .sub (.t 12) (.t 13)⟩,
     ⟨some 8, none, .mov (.t 14)⟩] false [])
    (.keep [0, 6, 7, 8] (.seq
    (.seq
     (.region [⟨some 15, none, .mov (.t 8)⟩,
      ⟨some 16, none, .bin .sub (.t 15) (.c (.d (.i .i64 1)))⟩,
      ⟨some 17, none, .bin .quo (.t 16) (.c (.d (.i .i64 2)))⟩,
      ⟨some 9, none, .mov (.t 17)⟩] false [])
     (.keep [0, 6, 7, 8, 9] (.block 0 (.loop [0, 6, 7, 8, 9] false F100_slices_heapSortOrdered_int_b0))))
    (.keep [0, 6, 7, 8] (.seq
     (.region [⟨some 27, none, .mov (.t 8)⟩,
      ⟨some 28, none, .bin .sub (.t 27) (.c (.d (.i .i64 1)))⟩,
      ⟨some 10, none, .mov (.t 28)⟩] false [])
     (.keep [0, 6, 7, 10] (.block 2 (.loop [0, 6, 7, 10] false F100_slices_heapSortOrdered_int_b1)))))))))))⟩

def F101_slices_breakPatternsOrdered_int_b0 : SCode :=
  .seq
       (.seq
       (.region [⟨some 26, none, .mov (.t 9)⟩,
        ⟨some 27, none, .mov (.t 1)⟩,
        ⟨some 28, none, .mov (.t 6)⟩,
        ⟨some 29, none, .bin .quo (.t 28) (.c (.d (.i .i64 4)))⟩,
        ⟨some 30, none, .bin .mul (.t 29) (.c (.d (.i .i64 2)))⟩,
        ⟨some 31, none, .bin .add (.t 27) (.t 30)⟩,
        ⟨some 32, none, .bin .add (.t 31) (.c (.d (.i .i64 1)))⟩,
        ⟨some 33, none, .bin .leq (.t 26) (.t 32)⟩] false [])
       (.keep [0, 1, 6, 7, 8, 9, 33] (.cond (.t 33)
        (.skip)
        (.exit 0))))
       (.keep [0, 1, 6, 7, 8, 9] (.seq
       (.block 1 (.seq
        (.region [⟨some 36, none, .call 112 [.t 7]⟩,
         ⟨some 37, none, .mov (.t 8)⟩,
         ⟨some 38, none, .bin .sub (.t 37) (.c (.d (.i .u64 1)))⟩,
         ⟨some 39, none, .bin .and (.t 36) (.t 38)⟩,
         ⟨some 40, none, .conv .i64 (.t 39)⟩,
         ⟨some 10, none, .mov (.t 40)⟩] false [])
        (.keep [0, 1, 6, 7, 8, 9, 10] (.seq
         (.seq
         (.region [⟨some 41, none, .mov (.t 10)⟩,
          ⟨some 42, none, .mov (.t 6)⟩,
          ⟨some 43, none, .bin .geq (.t 41) (.t 42)⟩] false [])
         (.keep [0, 1, 6, 7, 8, 9, 10, 43] (.cond (.t 43)
          (.keep [0, 1, 6, 7, 8, 9, 10] (.region [⟨some 44, none, .mov (.t 10)⟩,
           ⟨some 45, none, .mov (.t 6)⟩,
           ⟨some 46, none, .bin .sub (.t 44) (.t 45)⟩,
           ⟨some 10, none, .mov (.t 46)⟩] false []))
          (.skip))))
         (.keep [0, 1, 6, 7, 8, 9, 10] (.region [⟨some 47, none, .mov (.t 0)⟩,
          ⟨some 48, none, .mov (.t 9)⟩,
          ⟨some 49, none, .mov (.t 0)⟩,
          ⟨some 50, none, .mov (.t 1)⟩,
          ⟨some 51, none, .mov (.t 10)⟩,
          ⟨some 52, none, .bin .add (.t 50) (.t 51)⟩,
          ⟨some 53, none, .mov (.t 0)⟩,
          ⟨some 54, none, .mov (.t 1)⟩,
          ⟨some 55, none, .mov (.t 10)⟩,
          ⟨some 56, none, .bin .add (.t 54) (.t 55)⟩,
          ⟨some 57, none, .iaddr 1 (.t 53) (.t 56)⟩,
          ⟨some 58, none, .load 1 false (.t 57)⟩,
          ⟨some 59, none, .mov (.t 0)⟩,
          ⟨some 60, none, .mov (.t 9)⟩,
          ⟨some 61, none, .iaddr 1 (.t 59) (.t 60)⟩,
          ⟨some 62, none, .load 1 false (.t 61)⟩,
          ⟨some 63, none, .iaddr 1 (.t 47) (.t 48)⟩,
          ⟨none, none, .store 1 (.t 63) (.t 58)⟩,
          ⟨some 64, none, .iaddr 1 (.t 49) (.t 52)⟩,
          ⟨none, none, .store 1 (.t 64) (.t 62)⟩] true [0, 0, 0, 0, 0, 24, 0, 0, 0, 384, 960, 1984, 0, 0, 12288, 28672, 65475, 131011, 262143, 524287]))))))
       (.keep [0, 1, 6, 7, 8, 9] (.region [⟨some 34, none, .mov (.t 9)⟩,
        ⟨some 35, none, .bin .add (.t 34) (.c (.d (.i .i64 1)))⟩,
        ⟨some 9, none, .mov (.t 35)⟩] false []))))
/-- slices.breakPatternsOrdered[int] -/
def F101_slices_breakPatternsOrdered_int : SFn := ⟨3, false, false, [],
  .seq
   (.region [⟨some 11, none, .mov (.t 2)⟩,
    ⟨some 12, none, .mov (.t 1)⟩,
    ⟨some 13, none, .bin .sub (.t 11) (.t 12)⟩,
    ⟨some 6, none, .mov (.t 13)⟩] false [])
   (.keep [0, 1, 6] (.seq
   (.region [⟨some 14, none, .mov (.t 6)⟩,
    ⟨some 15, none, .bin .geq (.t 14) (.c (.d (.i .i64 8)))⟩] false [])
   (.keep [0, 1, 6, 15] (.cond (.t 15)
    (.keep [0, 1, 6] (.seq
    (.region [⟨some 16, none, .mov (.t 6)⟩,
     ⟨some 17, none, .conv .u64 (.t 16)⟩,
     ⟨some 7, none, .alloc [.i .u64 0]⟩,
     ⟨none, none, .store 1 (.t 7) (.t 17)⟩] false [])
    (.keep [0, 1, 6, 7] (.seq
     (.region [⟨some 18, none, .mov (.t 6)⟩,
      ⟨some 19, none, .call 111 [.t 18]⟩,
      ⟨some 8, none, .mov (.t 19)⟩] false [])
     (.keep [0, 1, 6, 7, 8] (.seq
     (.region [⟨some 20, none, .mov (.t 1)⟩,
      ⟨some 21, none, .mov (.t 6)⟩,
      ⟨some 22, none, .bin .quo (.t 21) (.c (.d (.i .i64 4)))⟩,
      ⟨some 23, none, .bin .mul (.t 22) (.c (.d (.i .i64 2)))⟩,
      ⟨some 24, none, .bin .add (.t 20) (.t 23)⟩,
      ⟨some 25, none, .bin .sub (.t 24) (.c (.d (.i .i64 1)))⟩,
      ⟨some 9, none, .mov (.t 25)⟩] false [])
     (.keep [0, 1, 6, 7, 8, 9] (.block 0 (.loop [0, 1, 6, 7, 8, 9] false F101_slices_breakPatternsOrdered_int_b0)))))))))
    (.skip)))))⟩

/-- slices.choosePivotOrdered[int] -/
def F102_slices_choosePivotOrdered_int : SFn := ⟨3, true, true, [.tmp 6, .tmp 7],
  .seq
   (.region [⟨some 6, none, .mov (.c (.d (.i .i64 0)))⟩,
    ⟨some 7, none, .mov (.c (.d (.i .i64 0)))⟩] false [])
   (.keep [0, 1, 2] (.seq
   (.region [⟨some 13, none, .mov (.t 2)⟩,
    ⟨some 14, none, .mov (.t 1)⟩,
    ⟨some 15, none, .bin .sub (.t 13) (.t 14)⟩,
    ⟨some 8, none, .mov (.t 15)⟩] false [])
   (.keep [0, 1, 8] (.seq
    (.region [⟨some 9, none, .alloc [.i .i64 0]⟩] false [])
    (.keep [0, 1, 8, 9] (.seq
    (.region [⟨some 16, none, .mov (.t 1)⟩,
     ⟨some 17, none, .mov (.t 8)⟩,
     ⟨some 18, none, .bin .quo (.t 17) (.c (.d (.i .i64 4)))⟩,
     ⟨some 19, none, .bin .mul (.t 18) (.c (.d (.i .i64 1)))⟩,
     ⟨some 20, none, .bin .add (.t 16) (.t 19)⟩,
     ⟨some 10, none, .mov (.t 20)⟩] false [])
    (.keep [0, 1, 8, 9, 10] (.seq
     (.region [⟨some 21, none, .mov (.t 1)⟩,
      ⟨some 22, none, .mov (.t 8)⟩,
      ⟨some 23, none, .bin .quo (.t 22) (.c (.d (.i .i64 4)))⟩,
      ⟨some 24, none, .bin .mul (.t 23) (.c (.d (.i .i64 2)))⟩,
      ⟨some 25, none, .bin .add (.t 21) (.t 24)⟩,
      ⟨some 11, none, .mov (.t 25)⟩] false [])
     (.keep [0, 1, 8, 9, 10, 11] (.seq
     (.region [⟨some 26, none, .mov (.t 1)⟩,
      ⟨some 27, none, .mov (.t 8)⟩,
      ⟨some 28, none, .bin .quo (.t 27) (.c (.d (.i .i64 4)))⟩,
      ⟨some 29, none, .bin .mul (.t 28) (.c (.d (.i .i64 3)))⟩,
      ⟨some 30, none, .bin .add (.t 26) (.t 29)⟩,
      ⟨some 12, none, .mov (.t 30)⟩] false [])
     (.keep [0, 8, 9, 10, 11, 12] (.seq
      (.seq
      (.region [⟨some 31, none, .mov (.t 8)⟩,
       ⟨some 32, none, .bin .geq (.t 31) (.c (.d (.i .i64 8)))⟩] false [])
      (.keep [0, 8, 9, 10, 11, 12, 32] (.cond (.t 32)
       (.keep [0, 8, 9, 10, 11, 12] (.seq
       (.seq
        (.region [⟨some 33, none, .mov (.t 8)⟩,
         ⟨some 34, none, .bin .geq (.t 33) (.c (.d (.i .i64 50)))⟩] false [])
        (.keep [0, 9, 10, 11, 12, 34] (.cond (.t 34)
        (.keep [0, 9, 10, 11, 12] (.seq
         (.region [⟨some 35, none, .mov (.t 0)⟩,
          ⟨some 36, none, .mov (.t 10)⟩,
          ⟨some 37, none, .call 113 [.t 35, .t 36, .t 9]⟩,
          ⟨some 10, none, .mov (.t 37)⟩] false [])
         (.keep [0, 9, 10, 11, 12] (.seq
         (.region [⟨some 38, none, .mov (.t 0)⟩,
          ⟨some 39, none, .mov (.t 11)⟩,
          ⟨some 40, none, .call 113 [.t 38, .t 39, .t 9]⟩,
          ⟨some 11, none, .mov (.t 40)⟩] false [])
         (.keep [0, 9, 10, 11, 12] (.region [⟨some 41, none, .mov (.t 0)⟩,
          ⟨some 42, none, .mov (.t 12)⟩,
          ⟨some 43, none, .call 113 [.t 41, .t 42, .t 9]⟩,
          ⟨some 12, none, .mov (.t 43)⟩] false []))))))
        (.skip))))
       (.keep [0, 9, 10, 11, 12] (.region [⟨some 44, none, .mov (.t 0)⟩,
        ⟨some 45, none, .mov (.t 10)⟩,
        ⟨some 46, none, .mov (.t 11)⟩,
        ⟨some 47, none, .mov (.t 12)⟩,
        ⟨some 48, none, .call 114 [.t 44, .t 45, .t 46, .t 47, .t 9]⟩,
        ⟨some 11, none, .mov (.t 48)⟩] false []))))
       (.skip))))
      (.keep [9, 11] (.seq
      (.region [⟨some 49, none, .load 1 false (.t 9)⟩] false [])
      (.keep [11, 49] (.block 0 (.seq
       (.region [⟨some 52, none, .bin .eql (.t 49) (.c (.d (.i .i64 0)))⟩,
        ⟨some 51, none, .mov (.t 52)⟩] false [])
       (.keep [11, 49, 51] (.cond (.t 51)
        (.keep [11] (.seq
        (.region [⟨some 53, none, .mov (.t 11)⟩,
         ⟨some 6, none, .mov (.t 53)⟩,
         ⟨some 7, none, .mov (.c (.d (.i .i64 1)))⟩] false [])
        (.ret)))
        (.keep [11, 49] (.seq
        (.region [⟨some 55, none, .bin .eql (.t 49) (.c (.d (.i .i64 12)))⟩,
         ⟨some 54, none, .mov (.t 55)⟩] false [])
        (.keep [11, 54] (.cond (.t 54)
         (.keep [11] (.seq
         (.region [⟨some 56, none, .mov (.t 11)⟩,
          ⟨some 6, none, .mov (.t 56)⟩,
          ⟨some 7, none, .mov (.c (.d (.i .i64 2)))⟩] false [])
         (.ret)))
         (.keep [11] (.seq
         (.region [⟨some 50, none, .mov (.t 11)⟩,
          ⟨some 6, none, .mov (.t 50)⟩,
          ⟨some 7, none, .mov (.c (.d (.i .i64 0)))⟩] false [])
         (.ret))))))))))))))))))))))))))⟩

def F103_slices_reverseRangeOrdered_int_b0 : SCode :=
  .seq
     (.seq
     (.region [⟨some 11, none, .mov (.t 6)⟩,
      ⟨some 12, none, .mov (.t 7)⟩,
      ⟨some 13, none, .bin .lss (.t 11) (.t 12)⟩] false [])
     (.keep [0, 6, 7, 13] (.cond (.t 13)
      (.skip)
      (.exit 0))))
     (.keep [0, 6, 7] (.block 1 (.seq
      (.region [⟨some 14, none, .mov (.t 0)⟩,
       ⟨some 15, none, .mov (.t 6)⟩,
       ⟨some 16, none, .mov (.t 0)⟩,
       ⟨some 17, none, .mov (.t 7)⟩,
       ⟨some 18, none, .mov (.t 0)⟩,
       ⟨some 19, none, .mov (.t 7)⟩,
       ⟨some 20, none, .iaddr 1 (.t 18) (.t 19)⟩,
       ⟨some 21, none, .load 1 false (.t 20)⟩,
       ⟨some 22, none, .mov (.t 0)⟩,
       ⟨some 23, none, .mov (.t 6)⟩,
       ⟨some 24, none, .iaddr 1 (.t 22) (.t 23)⟩,
       ⟨some 25, none, .load 1 false (.t 24)⟩,
       ⟨some 26, none, .iaddr 1 (.t 14) (.t 15)⟩,
       ⟨none, none, .store 1 (.t 26) (.t 21)⟩,
       ⟨some 27, none, .iaddr 1 (.t 16) (.t 17)⟩,
       ⟨none, none, .store 1 (.t 27) (.t 25)⟩] true [0, 0, 0, 0, 0, 0, 48, 112, 0, 0, 768, 1792, 4083, 8179, 16383, 32767])
      (.keep [0, 6, 7] (.seq
      (.region [⟨some 28, none, .mov (.t 6)⟩,
       ⟨some 29, none, .bin .add (.t 28) (.c (.d (.i .i64 1)))⟩,
       ⟨some 6, none, .mov (.t 29)⟩] false [])
      (.keep [0, 6, 7] (.region [⟨some 30, none, .mov (.t 7)⟩,
       ⟨some 31, none, .bin .sub (.t 30) (.c (.d (.i .i64 1)))⟩,
       ⟨some 7, none, .mov (.t 31)⟩] false [])))))))
/-- slices.reverseRangeOrdered[int] -/
def F103_slices_reverseRangeOrdered_int : SFn := ⟨3, false, false, [],
  .seq
   (.region [⟨some 8, none, .mov (.t 1)⟩,
    ⟨some 6, none, .mov (.t 8)⟩] false [])
   (.keep [0, 2, 6] (.seq
   (.region [⟨some 9, none, .mov (.t 2)⟩,
    ⟨some 10, none, .bin .sub (.t 9) (.c (.d (.i .i64 1)))⟩,
    ⟨some 7, none, .mov (.t 10)⟩] false [])
   (.keep [0, 6, 7] (.block 0 (.loop [0, 6, 7] false F103_slices_reverseRangeOrdered_int_b0)))))⟩

def F104_slices_partialInsertionSortOrdered_int_b1 : SCode :=
  .seq
         (.seq
         (.region [⟨some 17, none, .mov (.t 7)⟩,
          ⟨some 18, none, .mov (.t 2)⟩,
          ⟨some 19, none, .bin .lss (.t 17) (.t 18)⟩,
          ⟨some 20, none, .mov (.t 19)⟩,
          ⟨some 21, (some (3, true)), .mov (.t 0)⟩,
          ⟨some 22, (some (3, true)), .mov (.t 7)⟩,
          ⟨some 23, (some (3, true)), .iaddr 1 (.t 21) (.t 22)⟩,
          ⟨some 24, (some (3, true)), .load 1 false (.t 23)⟩,
          ⟨some 25, (some (3, true)), .mov (.t 0)⟩,
          ⟨some 26, (some (3, true)), .mov (.t 7)⟩,
          ⟨some 27, (some (3, true)), .bin .sub (.t 26) (.c (.d (.i .i64 1)))⟩,
          ⟨some 28, (some (3, true)), .iaddr 1 (.t 25) (.t 27)⟩,
          ⟨some 29, (some (3, true)), .load 1 false (.t 28)⟩,
          ⟨some 30, (some (3, true)), .call 105 [.t 24, .t 29]⟩,
          ⟨some 31, (some (3, true)), .un .not (.t 30)⟩,
          ⟨some 32, none, .pick (.t 20) (.t 31) (.c (.d (.b false)))⟩] true [0, 0, 3, 7, 15, 15, 63, 127, 15, 15, 527, 1807, 3855, 8191, 16383, 32767])
         (.keep [0, 1, 2, 7, 8, 32] (.cond (.t 32)
          (.skip)
          (.exit 2))))
         (.keep [0, 1, 2, 7, 8] (.block 3 (.region [⟨some 33, none, .mov (.t 7)⟩,
          ⟨some 34, none, .bin .add (.t 33) (.c (.d (.i .i64 1)))⟩,
          ⟨some 7, none, .mov (.t 34)⟩] false [])))
def F104_slices_partialInsertionSortOrdered_int_b2 : SCode :=
  .seq
            (.seq
             (.region [⟨some 64, none, .mov (.t 9)⟩,
              ⟨some 65, none, .bin .geq (.t 64) (.c (.d (.i .i64 1)))⟩] false [])
             (.keep [0, 1, 2, 7, 8, 9, 65] (.cond (.t 65)
             (.skip)
             (.exit 4))))
            (.keep [0, 1, 2, 7, 8, 9] (.seq
             (.block 5 (.seq
              (.seq
              (.region [⟨some 68, none, .mov (.t 0)⟩,
               ⟨some 69, none, .mov (.t 9)⟩,
               ⟨some 70, none, .iaddr 1 (.t 68) (.t 69)⟩,
               ⟨some 71, none, .load 1 false (.t 70)⟩,
               ⟨some 72, none, .mov (.t 0)⟩,
               ⟨some 73, none, .mov (.t 9)⟩,
               ⟨some 74, none, .bin .sub (.t 73) (.c (.d (.i .i64 1)))⟩,
               ⟨some 75, none, .iaddr 1 (.t 72) (.t 74)⟩,
               ⟨some 76, none, .load 1 false (.t 75)⟩,
               ⟨some 77, none, .call 105 [.t 71, .t 76]⟩,
               ⟨some 78, none, .un .not (.t 77)⟩] true [0, 0, 3, 7, 0, 0, 32, 112, 240, 511, 1023])
              (.keep [0, 1, 2, 7, 8, 9, 78] (.cond (.t 78)
               (.exit 4)
               (.skip))))
              (.keep [0, 1, 2, 7, 8, 9] (.region [⟨some 79, none, .mov (.t 0)⟩,
               ⟨some 80, none, .mov (.t 9)⟩,
               ⟨some 81, none, .mov (.t 0)⟩,
               ⟨some 82, none, .mov (.t 9)⟩,
               ⟨some 83, none, .bin .sub (.t 82) (.c (.d (.i .i64 1)))⟩,
               ⟨some 84, none, .mov (.t 0)⟩,
               ⟨some 85, none, .mov (.t 9)⟩,
               ⟨some 86, none, .bin .sub (.t 85) (.c (.d (.i .i64 1)))⟩,
               ⟨some 87, none, .iaddr 1 (.t 84) (.t 86)⟩,
               ⟨some 88, none, .load 1 false (.t 87)⟩,
               ⟨some 89, none, .mov (.t 0)⟩,
               ⟨some 90, none, .mov (.t 9)⟩,
               ⟨some 91, none, .iaddr 1 (.t 89) (.t 90)⟩,
               ⟨some 92, none, .load 1 false (.t 91)⟩,
               ⟨some 93, none, .iaddr 1 (.t 79) (.t 80)⟩,
               ⟨none, none, .store 1 (.t 93) (.t 88)⟩,
               ⟨some 94, none, .iaddr 1 (.t 81) (.t 83)⟩,
               ⟨none, none, .store 1 (.t 94) (.t 92)⟩] true [0, 0, 0, 0, 8, 0, 0, 64, 224, 480, 0, 0, 3072, 7168, 16355, 32739, 65535, 131071]))))
             (.keep [0, 1, 2, 7, 8, 9] (.region [⟨some 66, none, .mov (.t 9)⟩,
              ⟨some 67, none, .bin .sub (.t 66) (.c (.d (.i .i64 1)))⟩,
              ⟨some 9, none, .mov (.t 67)⟩] false []))))
def F104_slices_partialInsertionSortOrdered_int_b3 : SCode :=
  .seq
            (.seq
             (.region [⟨some 101, none, .mov (.t 10)⟩,
              ⟨some 102, none, .mov (.t 2)⟩,
              ⟨some 103, none, .bin .lss (.t 101) (.t 102)⟩] false [])
             (.keep [0, 1, 2, 7, 8, 10, 103] (.cond (.t 103)
             (.skip)
             (.exit 6))))
            (.keep [0, 1, 2, 7, 8, 10] (.seq
             (.block 7 (.seq
              (.seq
              (.region [⟨some 106, none, .mov (.t 0)⟩,
               ⟨some 107, none, .mov (.t 10)⟩,
               ⟨some 108, none, .iaddr 1 (.t 106) (.t 107)⟩,
               ⟨some 109, none, .load 1 false (.t 108)⟩,
               ⟨some 110, none, .mov (.t 0)⟩,
               ⟨some 111, none, .mov (.t 10)⟩,
               ⟨some 112, none, .bin .sub (.t 111) (.c (.d (.i .i64 1)))⟩,
               ⟨some 113, none, .iaddr 1 (.t 110) (.t 112)⟩,
               ⟨some 114, none, .load 1 false (.t 113)⟩,
               ⟨some 115, none, .call 105 [.t 109, .t 114]⟩,
               ⟨some 116, none, .un .not (.t 115)⟩] true [0, 0, 3, 7, 0, 0, 32, 112, 240, 511, 1023])
              (.keep [0, 1, 2, 7, 8, 10, 116] (.cond (.t 116)
               (.exit 6)
               (.skip))))
              (.keep [0, 1, 2, 7, 8, 10] (.region [⟨some 117, none, .mov (.t 0)⟩,
               ⟨some 118, none, .mov (.t 10)⟩,
               ⟨some 119, none, .mov (.t 0)⟩,
               ⟨some 120, none, .mov (.t 10)⟩,
               ⟨some 121, none, .bin .sub (.t 120) (.c (.d (.i .i64 1)))⟩,
               ⟨some 122, none, .mov (.t 0)⟩,
               ⟨some 123, none, .mov (.t 10)⟩,
               ⟨some 124, none, .bin .sub (.t 123) (.c (.d (.i .i64 1)))⟩,
               ⟨some 125, none, .iaddr 1 (.t 122) (.t 124)⟩,
               ⟨some 126, none, .load 1 false (.t 125)⟩,
               ⟨some 127, none, .mov (.t 0)⟩,
               ⟨some 128, none, .mov (.t 10)⟩,
               ⟨some 129, none, .iaddr 1 (.t 127) (.t 128)⟩,
               ⟨some 130, none, .load 1 false (.t 129)⟩,
               ⟨some 131, none, .iaddr 1 (.t 117) (.t 118)⟩,
               ⟨none, none, .store 1 (.t 131) (.t 126)⟩,
               ⟨some 132, none, .iaddr 1 (.t 119) (.t 121)⟩,
               ⟨none, none, .store 1 (.t 132) (.t 130)⟩] true [0, 0, 0, 0, 8, 0, 0, 64, 224, 480, 0, 0, 3072, 7168, 16355, 32739, 65535, 131071]))))
             (.keep [0, 1, 2, 7, 8, 10] (.region [⟨some 104, none, .mov (.t 10)⟩,
              ⟨some 105, none, .bin .add (.t 104) (.c (.d (.i .i64 1)))⟩,
              ⟨some 10, none, .mov (.t 105)⟩] false []))))
def F104_slices_partialInsertionSortOrdered_int_b0 : SCode :=
  .seq
      (.seq
      (.region [⟨some 13, none, .mov (.t 8)⟩,
       ⟨some 14, none, .bin .lss (.t 13) (.c (.d (.i .i64 5)))⟩] false [])
      (.keep [0, 1, 2, 7, 8, 14] (.cond (.t 14)
       (.skip)
       (.exit 0))))
      (.keep [0, 1, 2, 7, 8] (.seq
      (.block 1 (.seq
       (.block 2 (.loop [0, 1, 2, 7, 8] false F104_slices_partialInsertionSortOrdered_int_b1))
       (.keep [0, 1, 2, 7, 8] (.seq
        (.seq
        (.region [⟨some 35, none, .mov (.t 7)⟩,
         ⟨some 36, none, .mov (.t 2)⟩,
         ⟨some 37, none, .bin .eql (.t 35) (.t 36)⟩] false [])
        (.keep [0, 1, 2, 7, 8, 37] (.cond (.t 37)
         (.keep [] (.seq
         (.region [⟨some 6, none, .mov (.c (.d (.b true)))⟩] false [])
         (.ret)))
         (.skip))))
        (.keep [0, 1, 2, 7, 8] (.seq
        (.seq
         (.region [⟨some 38, none, .mov (.t 2)⟩,
          ⟨some 39, none, .mov (.t 1)⟩,
          ⟨some 40, none, .bin .sub (.t 38) (.t 39)⟩,
          ⟨some 41, none, .bin .lss (.t 40) (.c (.d (.i .i64 50)))⟩] false [])
         (.keep [0, 1, 2, 7, 8, 41] (.cond (.t 41)
         (.keep [] (.seq
          (.region [⟨some 6, none, .mov (.c (.d (.b false)))⟩] false [])
          (.ret)))
         (.skip))))
        (.keep [0, 1, 2, 7, 8] (.seq
         (.region [⟨some 42, none, .mov (.t 0)⟩,
          ⟨some 43, none, .mov (.t 7)⟩,
          ⟨some 44, none, .mov (.t 0)⟩,
          ⟨some 45, none, .mov (.t 7)⟩,
          ⟨some 46, none, .bin .sub (.t 45) (.c (.d (.i .i64 1)))⟩,
          ⟨some 47, none, .mov (.t 0)⟩,
          ⟨some 48, none, .mov (.t 7)⟩,
          ⟨some 49, none, .bin .sub (.t 48) (.c (.d (.i .i64 1)))⟩,
          ⟨some 50, none, .iaddr 1 (.t 47) (.t 49)⟩,
          ⟨some 51, none, .load 1 false (.t 50)⟩,
          ⟨some 52, none, .mov (.t 0)⟩,
          ⟨some 53, none, .mov (.t 7)⟩,
          ⟨some 54, none, .iaddr 1 (.t 52) (.t 53)⟩,
          ⟨some 55, none, .load 1 false (.t 54)⟩,
          ⟨some 56, none, .iaddr 1 (.t 42) (.t 43)⟩,
          ⟨none, none, .store 1 (.t 56) (.t 51)⟩,
          ⟨some 57, none, .iaddr 1 (.t 44) (.t 46)⟩,
          ⟨none, none, .store 1 (.t 57) (.t 55)⟩] true [0, 0, 0, 0, 8, 0, 0, 64, 224, 480, 0, 0, 3072, 7168, 16355, 32739, 65535, 131071])
         (.keep [0, 1, 2, 7, 8] (.seq
         (.seq
          (.region [⟨some 58, none, .mov (.t 7)⟩,
           ⟨some 59, none, .mov (.t 1)⟩,
           ⟨some 60, none, .bin .sub (.t 58) (.t 59)⟩,
           ⟨some 61, none, .bin .geq (.t 60) (.c (.d (.i .i64 2)))⟩] false [])
          (.keep [0, 1, 2, 7, 8, 61] (.cond (.t 61)
          (.keep [0, 1, 2, 7, 8] (.seq
           (.region [⟨some 62, none, .mov (.t 7)⟩,
            ⟨some 63, none, .bin .sub (.t 62) (.c (.d (.i .i64 1)))⟩,
            ⟨some 9, none, .mov (.t 63)⟩] false [])
           (.keep [0, 1, 2, 7, 8, 9] (.block 4 (.loop [0, 1, 2, 7, 8, 9] false F104_slices_partialInsertionSortOrdered_int_b2)))))
          (.skip))))
         (.keep [0, 1, 2, 7, 8] (.seq
          (.region [⟨some 95, none, .mov (.t 2)⟩,
           ⟨some 96, none, .mov (.t 7)⟩,
           ⟨some 97, none, .bin .sub (.t 95) (.t 96)⟩,
           ⟨some 98, none, .bin .geq (.t 97) (.c (.d (.i .i64 2)))⟩] false [])
          (.keep [0, 1, 2, 7, 8, 98] (.cond (.t 98)
          (.keep [0, 1, 2, 7, 8] (.seq
           (.region [⟨some 99, none, .mov (.t 7)⟩,
            ⟨some 100, none, .bin .add (.t 99) (.c (.d (.i .i64 1)))⟩,
            ⟨some 10, none, .mov (.t 100)⟩] false [])
           (.keep [0, 1, 2, 7, 8, 10] (.block 6 (.loop [0, 1, 2, 7, 8, 10] false F104_slices_partialInsertionSortOrdered_int_b3)))))
          (.skip)))))))))))))))
      (.keep [0, 1, 2, 7, 8] (.region [⟨some 15, none, .mov (.t 8)⟩,
       ⟨some 16, none, .bin .add (.t 15) (.c (.d (.i .i64 1)))⟩,
       ⟨some 8, none, .mov (.t 16)⟩] false []))))
/-- slices.partialInsertionSortOrdered[int] -/
def F104_slices_partialInsertionSortOrdered_int : SFn := ⟨3, false, false, [.tmp 6],
  .seq
   (.region [⟨some 6, none, .mov (.c (.d (.b false)))⟩] false [])
   (.keep [0, 1, 2] (.seq
   (.region [⟨some 11, none, .mov (.t 1)⟩,
    ⟨some 12, none, .bin .add (.t 11) (.c (.d (.i .i64 1)))⟩,
    ⟨some 7, none, .mov (.t 12)⟩] false [])
   (.keep [0, 1, 2, 7] (.seq
    (.seq
    (.region [⟨some 8, none, .mov (.c (.d (.i .i64 0)))⟩] false [])
    (.keep [0, 1, 2, 7, 8] (.block 0 (.loop [0, 1, 2, 7, 8] false F104_slices_partialInsertionSortOrdered_int_b0))))
    (.keep [] (.seq
    (.region [⟨some 6, none, .mov (.c (.d (.b false)))⟩] false [])
    (.ret)))))))⟩

def F106_slices_partitionEqualOrdered_int_b1 : SCode :=
  .seq
        (.seq
        (.region [⟨some 29, none, .mov (.t 9)⟩,
         ⟨some 30, none, .mov (.t 10)⟩,
         ⟨some 31, none, .bin .leq (.t 29) (.t 30)⟩,
         ⟨some 32, none, .mov (.t 31)⟩,
         ⟨some 33, (some (3, true)), .mov (.t 0)⟩,
         ⟨some 34, (some (3, true)), .mov (.t 1)⟩,
         ⟨some 35, (some (3, true)), .iaddr 1 (.t 33) (.t 34)⟩,
         ⟨some 36, (some (3, true)), .load 1 false (.t 35)⟩,
         ⟨some 37, (some (3, true)), .mov (.t 0)⟩,
         ⟨some 38, (some (3, true)), .mov (.t 9)⟩,
         ⟨some 39, (some (3, true)), .iaddr 1 (.t 37) (.t 38)⟩,
         ⟨some 40, (some (3, true)), .load 1 false (.t 39)⟩,
         ⟨some 41, (some (3, true)), .call 105 [.t 36, .t 40]⟩,
         ⟨some 42, (some (3, true)), .un .not (.t 41)⟩,
         ⟨some 43, none, .pick (.t 32) (.t 42) (.c (.d (.b false)))⟩] true [0, 0, 3, 7, 15, 15, 63, 127, 15, 15, 783, 1807, 4095, 8191, 16383])
        (.keep [0, 1, 9, 10, 43] (.cond (.t 43)
         (.skip)
         (.exit 2))))
        (.keep [0, 1, 9, 10] (.block 3 (.region [⟨some 44, none, .mov (.t 9)⟩,
         ⟨some 45, none, .bin .add (.t 44) (.c (.d (.i .i64 1)))⟩,
         ⟨some 9, none, .mov (.t 45)⟩] false [])))
def F106_slices_partitionEqualOrdered_int_b2 : SCode :=
  .seq
        (.seq
         (.region [⟨some 46, none, .mov (.t 9)⟩,
          ⟨some 47, none, .mov (.t 10)⟩,
          ⟨some 48, none, .bin .leq (.t 46) (.t 47)⟩,
          ⟨some 49, none, .mov (.t 48)⟩,
          ⟨some 50, (some (3, true)), .mov (.t 0)⟩,
          ⟨some 51, (some (3, true)), .mov (.t 1)⟩,
          ⟨some 52, (some (3, true)), .iaddr 1 (.t 50) (.t 51)⟩,
          ⟨some 53, (some (3, true)), .load 1 false (.t 52)⟩,
          ⟨some 54, (some (3, true)), .mov (.t 0)⟩,
          ⟨some 55, (some (3, true)), .mov (.t 10)⟩,
          ⟨some 56, (some (3, true)), .iaddr 1 (.t 54) (.t 55)⟩,
          ⟨some 57, (some (3, true)), .load 1 false (.t 56)⟩,
          ⟨some 58, (some (3, true)), .call 105 [.t 53, .t 57]⟩,
          ⟨some 59, none, .pick (.t 49) (.t 58) (.c (.d (.b false)))⟩] true [0, 0, 3, 7, 15, 15, 63, 127, 15, 15, 783, 1807, 4095, 8191])
         (.keep [0, 1, 9, 10, 59] (.cond (.t 59)
         (.skip)
         (.exit 4))))
        (.keep [0, 1, 9, 10] (.block 5 (.region [⟨some 60, none, .mov (.t 10)⟩,
          ⟨some 61, none, .bin .sub (.t 60) (.c (.d (.i .i64 1)))⟩,
          ⟨some 10, none, .mov (.t 61)⟩] false [])))
def F106_slices_partitionEqualOrdered_int_b0 : SCode :=
  .block 1 (.seq
      (.block 2 (.loop [0, 1, 9, 10] false F106_slices_partitionEqualOrdered_int_b1))
      (.keep [0, 1, 9, 10] (.seq
       (.block 4 (.loop [0, 1, 9, 10] false F106_slices_partitionEqualOrdered_int_b2))
       (.keep [0, 1, 9, 10] (.seq
       (.seq
        (.region [⟨some 62, none, .mov (.t 9)⟩,
         ⟨some 63, none, .mov (.t 10)⟩,
         ⟨some 64, none, .bin .gtr (.t 62) (.t 63)⟩] false [])
        (.keep [0, 1, 9, 10, 64] (.cond (.t 64)
        (.exit 0)
        (.skip))))
       (.keep [0, 1, 9, 10] (.seq
        (.region [⟨some 65, none, .mov (.t 0)⟩,
         ⟨some 66, none, .mov (.t 9)⟩,
         ⟨some 67, none, .mov (.t 0)⟩,
         ⟨some 68, none, .mov (.t 10)⟩,
         ⟨some 69, none, .mov (.t 0)⟩,
         ⟨some 70, none, .mov (.t 10)⟩,
         ⟨some 71, none, .iaddr 1 (.t 69) (.t 70)⟩,
         ⟨some 72, none, .load 1 false (.t 71)⟩,
         ⟨some 73, none, .mov (.t 0)⟩,
         ⟨some 74, none, .mov (.t 9)⟩,
         ⟨some 75, none, .iaddr 1 (.t 73) (.t 74)⟩,
         ⟨some 76, none, .load 1 false (.t 75)⟩,
         ⟨some 77, none, .iaddr 1 (.t 65) (.t 66)⟩,
         ⟨none, none, .store 1 (.t 77) (.t 72)⟩,
         ⟨some 78, none, .iaddr 1 (.t 67) (.t 68)⟩,
         ⟨none, none, .store 1 (.t 78) (.t 76)⟩] true [0, 0, 0, 0, 0, 0, 48, 112, 0, 0, 768, 1792, 4083, 8179, 16383, 32767])
        (.keep [0, 1, 9, 10] (.seq
        (.region [⟨some 79, none, .mov (.t 9)⟩,
         ⟨some 80, none, .bin .add (.t 79) (.c (.d (.i .i64 1)))⟩,
         ⟨some 9, none, .mov (.t 80)⟩] false [])
        (.keep [0, 1, 9, 10] (.region [⟨some 81, none, .mov (.t 10)⟩,
         ⟨some 82, none, .bin .sub (.t 81) (.c (.d (.i .i64 1)))⟩,
         ⟨some 10, none, .mov (.t 82)⟩] false [])))))))))))
/-- slices.partitionEqualOrdered[int] -/
def F106_slices_partitionEqualOrdered_int : SFn := ⟨4, false, false, [.tmp 8],
  .seq
   (.region [⟨some 8, none, .mov (.c (.d (.i .i64 0)))⟩] false [])
   (.keep [0, 1, 2, 3] (.seq
   (.region [⟨some 11, none, .mov (.t 0)⟩,
    ⟨some 12, none, .mov (.t 1)⟩,
    ⟨some 13, none, .mov (.t 0)⟩,
    ⟨some 14, none, .mov (.t 3)⟩,
    ⟨some 15, none, .mov (.t 0)⟩,
    ⟨some 16, none, .mov (.t 3)⟩,
    ⟨some 17, none, .iaddr 1 (.t 15) (.t 16)⟩,
    ⟨some 18, none, .load 1 false (.t 17)⟩,
    ⟨some 19, none, .mov (.t 0)⟩,
    ⟨some 20, none, .mov (.t 1)⟩,
    ⟨some 21, none, .iaddr 1 (.t 19) (.t 20)⟩,
    ⟨some 22, none, .load 1 false (.t 21)⟩,
    ⟨some 23, none, .iaddr 1 (.t 11) (.t 12)⟩,
    ⟨none, none, .store 1 (.t 23) (.t 18)⟩,
    ⟨some 24, none, .iaddr 1 (.t 13) (.t 14)⟩,
    ⟨none, none, .store 1 (.t 24) (.t 22)⟩] true [0, 0, 0, 0, 0, 0, 48, 112, 0, 0, 768, 1792, 4083, 8179, 16383, 32767])
   (.keep [0, 1, 2] (.seq
    (.region [⟨some 25, none, .mov (.t 1)⟩,
     ⟨some 26, none, .bin .add (.t 25) (.c (.d (.i .i64 1)))⟩,
     ⟨some 27, none, .mov (.t 2)⟩,
     ⟨some 28, none, .bin .sub (.t 27) (.c (.d (.i .i64 1)))⟩,
     ⟨some 9, none, .mov (.t 26)⟩,
     ⟨some 10, none, .mov (.t 28)⟩] false [])
    (.keep [0, 1, 9, 10] (.seq
    (.block 0 (.loop [0, 1, 9, 10] false F106_slices_partitionEqualOrdered_int_b0))
    (.keep [9] (.seq
     (.region [⟨some 83, none, .mov (.t 9)⟩,
      ⟨some 8, none, .mov (.t 83)⟩] false [])
     (.ret)))))))))⟩

def F107_slices_partitionOrdered_int_b0 : SCode :=
  .seq
      (.seq
      (.region [⟨some 30, none, .mov (.t 10)⟩,
       ⟨some 31, none, .mov (.t 11)⟩,
       ⟨some 32, none, .bin .leq (.t 30) (.t 31)⟩,
       ⟨some 33, none, .mov (.t 32)⟩,
       ⟨some 34, (some (3, true)), .mov (.t 0)⟩,
       ⟨some 35, (some (3, true)), .mov (.t 10)⟩,
       ⟨some 36, (some (3, true)), .iaddr 1 (.t 34) (.t 35)⟩,
       ⟨some 37, (some (3, true)), .load 1 false (.t 36)⟩,
       ⟨some 38, (some (3, true)), .mov (.t 0)⟩,
       ⟨some 39, (some (3, true)), .mov (.t 1)⟩,
       ⟨some 40, (some (3, true)), .iaddr 1 (.t 38) (.t 39)⟩,
       ⟨some 41, (some (3, true)), .load 1 false (.t 40)⟩,
       ⟨some 42, (some (3, true)), .call 105 [.t 37, .t 41]⟩,
       ⟨some 43, none, .pick (.t 33) (.t 42) (.c (.d (.b false)))⟩] true [0, 0, 3, 7, 15, 15, 63, 127, 15, 15, 783, 1807, 4095, 8191])
      (.keep [0, 1, 10, 11, 43] (.cond (.t 43)
       (.skip)
       (.exit 0))))
      (.keep [0, 1, 10, 11] (.block 1 (.region [⟨some 44, none, .mov (.t 10)⟩,
       ⟨some 45, none, .bin .add (.t 44) (.c (.d (.i .i64 1)))⟩,
       ⟨some 10, none, .mov (.t 45)⟩] false [])))
def F107_slices_partitionOrdered_int_b1 : SCode :=
  .seq
      (.seq
       (.region [⟨some 46, none, .mov (.t 10)⟩,
        ⟨some 47, none, .mov (.t 11)⟩,
        ⟨some 48, none, .bin .leq (.t 46) (.t 47)⟩,
        ⟨some 49, none, .mov (.t 48)⟩,
        ⟨some 50, (some (3, true)), .mov (.t 0)⟩,
        ⟨some 51, (some (3, true)), .mov (.t 11)⟩,
        ⟨some 52, (some (3, true)), .iaddr 1 (.t 50) (.t 51)⟩,
        ⟨some 53, (some (3, true)), .load 1 false (.t 52)⟩,
        ⟨some 54, (some (3, true)), .mov (.t 0)⟩,
        ⟨some 55, (some (3, true)), .mov (.t 1)⟩,
        ⟨some 56, (some (3, true)), .iaddr 1 (.t 54) (.t 55)⟩,
        ⟨some 57, (some (3, true)), .load 1 false (.t 56)⟩,
        ⟨some 58, (some (3, true)), .call 105 [.t 53, .t 57]⟩,
        ⟨some 59, (some (3, true)), .un .not (.t 58)⟩,
        ⟨some 60, none, .pick (.t 49) (.t 59) (.c (.d (.b false)))⟩] true [0, 0, 3, 7, 15, 15, 63, 127, 15, 15, 783, 1807, 4095, 8191, 16383])
       (.keep [0, 1, 10, 11, 60] (.cond (.t 60)
       (.skip)
       (.exit 2))))
      (.keep [0, 1, 10, 11] (.block 3 (.region [⟨some 61, none, .mov (.t 11)⟩,
        ⟨some 62, none, .bin .sub (.t 61) (.c (.d (.i .i64 1)))⟩,
        ⟨some 11, none, .mov (.t 62)⟩] false [])))
def F107_slices_partitionOrdered_int_b3 : SCode :=
  .seq
           (.seq
           (.region [⟨some 99, none, .mov (.t 10)⟩,
            ⟨some 100, none, .mov (.t 11)⟩,
            ⟨some 101, none, .bin .leq (.t 99) (.t 100)⟩,
            ⟨some 102, none, .mov (.t 101)⟩,
            ⟨some 103, (some (3, true)), .mov (.t 0)⟩,
            ⟨some 104, (some (3, true)), .mov (.t 10)⟩,
            ⟨some 105, (some (3, true)), .iaddr 1 (.t 103) (.t 104)⟩,
            ⟨some 106, (some (3, true)), .load 1 false (.t 105)⟩,
            ⟨some 107, (some (3, true)), .mov (.t 0)⟩,
            ⟨some 108, (some (3, true)), .mov (.t 1)⟩,
            ⟨some 109, (some (3, true)), .iaddr 1 (.t 107) (.t 108)⟩,
            ⟨some 110, (some (3, true)), .load 1 false (.t 109)⟩,
            ⟨some 111, (some (3, true)), .call 105 [.t 106, .t 110]⟩,
            ⟨some 112, none, .pick (.t 102) (.t 111) (.c (.d (.b false)))⟩] true [0, 0, 3, 7, 15, 15, 63, 127, 15, 15, 783, 1807, 4095, 8191])
           (.keep [0, 1, 10, 11, 112] (.cond (.t 112)
            (.skip)
            (.exit 6))))
           (.keep [0, 1, 10, 11] (.block 7 (.region [⟨some 113, none, .mov (.t 10)⟩,
            ⟨some 114, none, .bin .add (.t 113) (.c (.d (.i .i64 1)))⟩,
            ⟨some 10, none, .mov (.t 114)⟩] false [])))
def F107_slices_partitionOrdered_int_b4 : SCode :=
  .seq
           (.seq
            (.region [⟨some 115, none, .mov (.t 10)⟩,
             ⟨some 116, none, .mov (.t 11)⟩,
             ⟨some 117, none, .bin .leq (.t 115) (.t 116)⟩,
             ⟨some 118, none, .mov (.t 117)⟩,
             ⟨some 119, (some (3, true)), .mov (.t 0)⟩,
             ⟨some 120, (some (3, true)), .mov (.t 11)⟩,
             ⟨some 121, (some (3, true)), .iaddr 1 (.t 119) (.t 120)⟩,
             ⟨some 122, (some (3, true)), .load 1 false (.t 121)⟩,
             ⟨some 123, (some (3, true)), .mov (.t 0)⟩,
             ⟨some 124, (some (3, true)), .mov (.t 1)⟩,
             ⟨some 125, (some (3, true)), .iaddr 1 (.t 123) (.t 124)⟩,
             ⟨some 126, (some (3, true)), .load 1 false (.t 125)⟩,
             ⟨some 127, (some (3, true)), .call 105 [.t 122, .t 126]⟩,
             ⟨some 128, (some (3, true)), .un .not (.t 127)⟩,
             ⟨some 129, none, .pick (.t 118) (.t 128) (.c (.d (.b false)))⟩] true [0, 0, 3, 7, 15, 15, 63, 127, 15, 15, 783, 1807, 4095, 8191, 16383])
            (.keep [0, 1, 10, 11, 129] (.cond (.t 129)
            (.skip)
            (.exit 8))))
           (.keep [0, 1, 10, 11] (.block 9 (.region [⟨some 130, none, .mov (.t 11)⟩,
             ⟨some 131, none, .bin .sub (.t 130) (.c (.d (.i .i64 1)))⟩,
             ⟨some 11, none, .mov (.t 131)⟩] false [])))
def F107_slices_partitionOrdered_int_b2 : SCode :=
  .block 5 (.seq
         (.block 6 (.loop [0, 1, 10, 11] false F107_slices_partitionOrdered_int_b3))
         (.keep [0, 1, 10, 11] (.seq
          (.block 8 (.loop [0, 1, 10, 11] false F107_slices_partitionOrdered_int_b4))
          (.keep [0, 1, 10, 11] (.seq
          (.seq
           (.region [⟨some 132, none, .mov (.t 10)⟩,
            ⟨some 133, none, .mov (.t 11)⟩,
            ⟨some 134, none, .bin .gtr (.t 132) (.t 133)⟩] false [])
           (.keep [0, 1, 10, 11, 134] (.cond (.t 134)
           (.exit 4)
           (.skip))))
          (.keep [0, 1, 10, 11] (.seq
           (.region [⟨some 135, none, .mov (.t 0)⟩,
            ⟨some 136, none, .mov (.t 10)⟩,
            ⟨some 137, none, .mov (.t 0)⟩,
            ⟨some 138, none, .mov (.t 11)⟩,
            ⟨some 139, none, .mov (.t 0)⟩,
            ⟨some 140, none, .mov (.t 11)⟩,
            ⟨some 141, none, .iaddr 1 (.t 139) (.t 140)⟩,
            ⟨some 142, none, .load 1 false (.t 141)⟩,
            ⟨some 143, none, .mov (.t 0)⟩,
            ⟨some 144, none, .mov (.t 10)⟩,
            ⟨some 145, none, .iaddr 1 (.t 143) (.t 144)⟩,
            ⟨some 146, none, .load 1 false (.t 145)⟩,
            ⟨some 147, none, .iaddr 1 (.t 135) (.t 136)⟩,
            ⟨none, none, .store 1 (.t 147) (.t 142)⟩,
            ⟨some 148, none, .iaddr 1 (.t 137) (.t 138)⟩,
            ⟨none, none, .store 1 (.t 148) (.t 146)⟩] true [0, 0, 0, 0, 0, 0, 48, 112, 0, 0, 768, 1792, 4083, 8179, 16383, 32767])
           (.keep [0, 1, 10, 11] (.seq
           (.region [⟨some 149, none, .mov (.t 10)⟩,
            ⟨some 150, none, .bin .add (.t 149) (.c (.d (.i .i64 1)))⟩,
            ⟨some 10, none, .mov (.t 150)⟩] false [])
           (.keep [0, 1, 10, 11] (.region [⟨some 151, none, .mov (.t 11)⟩,
            ⟨some 152, none, .bin .sub (.t 151) (.c (.d (.i .i64 1)))⟩,
            ⟨some 11, none, .mov (.t 152)⟩] false [])))))))))))
/-- slices.partitionOrdered[int] -/
def F107_slices_partitionOrdered_int : SFn := ⟨4, false, false, [.tmp 8, .tmp 9],
  .seq
   (.region [⟨some 8, none, .mov (.c (.d (.i .i64 0)))⟩,
    ⟨some 9, none, .mov (.c (.d (.b false)))⟩] false [])
   (.keep [0, 1, 2, 3] (.seq
   (.region [⟨some 12, none, .mov (.t 0)⟩,
    ⟨some 13, none, .mov (.t 1)⟩,
    ⟨some 14, none, .mov (.t 0)⟩,
    ⟨some 15, none, .mov (.t 3)⟩,
    ⟨some 16, none, .mov (.t 0)⟩,
    ⟨some 17, none, .mov (.t 3)⟩,
    ⟨some 18, none, .iaddr 1 (.t 16) (.t 17)⟩,
    ⟨some 19, none, .load 1 false (.t 18)⟩,
    ⟨some 20, none, .mov (.t 0)⟩,
    ⟨some 21, none, .mov (.t 1)⟩,
    ⟨some 22, none, .iaddr 1 (.t 20) (.t 21)⟩,
    ⟨some 23, none, .load 1 false (.t 22)⟩,
    ⟨some 24, none, .iaddr 1 (.t 12) (.t 13)⟩,
    ⟨none, none, .store 1 (.t 24) (.t 19)⟩,
    ⟨some 25, none, .iaddr 1 (.t 14) (.t 15)⟩,
    ⟨none, none, .store 1 (.t 25) (.t 23)⟩] true [0, 0, 0, 0, 0, 0, 48, 112, 0, 0, 768, 1792, 4083, 8179, 16383, 32767])
   (.keep [0, 1, 2] (.seq
    (.region [⟨some 26, none, .mov (.t 1)⟩,
     ⟨some 27, none, .bin .add (.t 26) (.c (.d (.i .i64 1)))⟩,
     ⟨some 28, none, .mov (.t 2)⟩,
     ⟨some 29, none, .bin .sub (.t 28) (.c (.d (.i .i64 1)))⟩,
     ⟨some 10, none, .mov (.t 27)⟩,
     ⟨some 11, none, .mov (.t 29)⟩] false [])
    (.keep [0, 1, 10, 11] (.seq
    (.block 0 (.loop [0, 1, 10, 11] false F107_slices_partitionOrdered_int_b0))
    (.keep [0, 1, 10, 11] (.seq
     (.block 2 (.loop [0, 1, 10, 11] false F107_slices_partitionOrdered_int_b1))
     (.keep [0, 1, 10, 11] (.seq
     (.seq
      (.region [⟨some 63, none, .mov (.t 10)⟩,
       ⟨some 64, none, .mov (.t 11)⟩,
       ⟨some 65, none, .bin .gtr (.t 63) (.t 64)⟩] false [])
      (.keep [0, 1, 10, 11, 65] (.cond (.t 65)
      (.keep [0, 1, 11] (.seq
       (.region [⟨some 66, none, .mov (.t 0)⟩,
        ⟨some 67, none, .mov (.t 11)⟩,
        ⟨some 68, none, .mov (.t 0)⟩,
        ⟨some 69, none, .mov (.t 1)⟩,
        ⟨some 70, none, .mov (.t 0)⟩,
        ⟨some 71, none, .mov (.t 1)⟩,
        ⟨some 72, none, .iaddr 1 (.t 70) (.t 71)⟩,
        ⟨some 73, none, .load 1 false (.t 72)⟩,
        ⟨some 74, none, .mov (.t 0)⟩,
        ⟨some 75, none, .mov (.t 11)⟩,
        ⟨some 76, none, .iaddr 1 (.t 74) (.t 75)⟩,
        ⟨some 77, none, .load 1 false (.t 76)⟩,
        ⟨some 78, none, .iaddr 1 (.t 66) (.t 67)⟩,
        ⟨none, none, .store 1 (.t 78) (.t 73)⟩,
        ⟨some 79, none, .iaddr 1 (.t 68) (.t 69)⟩,
        ⟨none, none, .store 1 (.t 79) (.t 77)⟩] true [0, 0, 0, 0, 0, 0, 48, 112, 0, 0, 768, 1792, 4083, 8179, 16383, 32767])
       (.keep [11] (.seq
       (.region [⟨some 80, none, .mov (.t 11)⟩,
        ⟨some 8, none, .mov (.t 80)⟩,
        ⟨some 9, none, .mov (.c (.d (.b true)))⟩] false [])
       (.ret)))))
      (.skip))))
     (.keep [0, 1, 10, 11] (.seq
      (.region [⟨some 81, none, .mov (.t 0)⟩,
       ⟨some 82, none, .mov (.t 10)⟩,
       ⟨some 83, none, .mov (.t 0)⟩,
       ⟨some 84, none, .mov (.t 11)⟩,
       ⟨some 85, none, .mov (.t 0)⟩,
       ⟨some 86, none, .mov (.t 11)⟩,
       ⟨some 87, none, .iaddr 1 (.t 85) (.t 86)⟩,
       ⟨some 88, none, .load 1 false (.t 87)⟩,
       ⟨some 89, none, .mov (.t 0)⟩,
       ⟨some 90, none, .mov (.t 10)⟩,
       ⟨some 91, none, .iaddr 1 (.t 89) (.t 90)⟩,
       ⟨some 92, none, .load 1 false (.t 91)⟩,
       ⟨some 93, none, .iaddr 1 (.t 81) (.t 82)⟩,
       ⟨none, none, .store 1 (.t 93) (.t 88)⟩,
       ⟨some 94, none, .iaddr 1 (.t 83) (.t 84)⟩,
       ⟨none, none, .store 1 (.t 94) (.t 92)⟩] true [0, 0, 0, 0, 0, 0, 48, 112, 0, 0, 768, 1792, 4083, 8179, 16383, 32767])
      (.keep [0, 1, 10, 11] (.seq
      (.region [⟨some 95, none, .mov (.t 10)⟩,
       ⟨some 96, none, .bin .add (.t 95) (.c (.d (.i .i64 1)))⟩,
       ⟨some 10, none, .mov (.t 96)⟩] false [])
      (.keep [0, 1, 10, 11] (.seq
       (.region [⟨some 97, none, .mov (.t 11)⟩,
        ⟨some 98, none, .bin .sub (.t 97) (.c (.d (.i .i64 1)))⟩,
        ⟨some 11, none, .mov (.t 98)⟩] false [])
       (.keep [0, 1, 10, 11] (.seq
       (.block 4 (.loop [0, 1, 10, 11] false F107_slices_partitionOrdered_int_b2))
       (.keep [0, 1, 11] (.seq
        (.region [⟨some 153, none, .mov (.t 0)⟩,
         ⟨some 154, none, .mov (.t 11)⟩,
         ⟨some 155, none, .mov (.t 0)⟩,
         ⟨some 156, none, .mov (.t 1)⟩,
         ⟨some 157, none, .mov (.t 0)⟩,
         ⟨some 158, none, .mov (.t 1)⟩,
         ⟨some 159, none, .iaddr 1 (.t 157) (.t 158)⟩,
         ⟨some 160, none, .load 1 false (.t 159)⟩,
         ⟨some 161, none, .mov (.t 0)⟩,
         ⟨some 162, none, .mov (.t 11)⟩,
         ⟨some 163, none, .iaddr 1 (.t 161) (.t 162)⟩,
         ⟨some 164, none, .load 1 false (.t 163)⟩,
         ⟨some 165, none, .iaddr 1 (.t 153) (.t 154)⟩,
         ⟨none, none, .store 1 (.t 165) (.t 160)⟩,
         ⟨some 166, none, .iaddr 1 (.t 155) (.t 156)⟩,
         ⟨none, none, .store 1 (.t 166) (.t 164)⟩] true [0, 0, 0, 0, 0, 0, 48, 112, 0, 0, 768, 1792, 4083, 8179, 16383, 32767])
        (.keep [11] (.seq
        (.region [⟨some 167, none, .mov (.t 11)⟩,
         ⟨some 8, none, .mov (.t 167)⟩,
         ⟨some 9, none, .mov (.c (.d (.b false)))⟩] false [])
        (.ret)))))))))))))))))))))))⟩

def F110_slices_siftDownOrdered_int_b0 : SCode :=
  .block 1 (.seq
     (.region [⟨some 11, none, .mov (.t 8)⟩,
      ⟨some 12, none, .bin .mul (.c (.d (.i .i64 2))) (.t 11)⟩,
      ⟨some 13, none, .bin .add (.t 12) (.c (.d (.i .i64 1)))⟩,
      ⟨some 9, none, .mov (.t 13)⟩] false [])
     (.keep [0, 2, 3, 8, 9] (.seq
     (.seq
      (.region [⟨some 14, none, .mov (.t 9)⟩,
       ⟨some 15, none, .mov (.t 2)⟩,
       ⟨some 16, none, .bin .geq (.t 14) (.t 15)⟩] false [])
      (.keep [0, 2, 3, 8, 9, 16] (.cond (.t 16)
      (.exit 0)
      (.skip))))
     (.keep [0, 2, 3, 8, 9] (.seq
      (.seq
      (.region [⟨some 17, none, .mov (.t 9)⟩,
       ⟨some 18, none, .bin .add (.t 17) (.c (.d (.i .i64 1)))⟩,
       ⟨some 19, none, .mov (.t 2)⟩,
       ⟨some 20, none, .bin .lss (.t 18) (.t 19)⟩,
       ⟨some 21, none, .mov (.t 20)⟩,
       ⟨some 22, (some (4, true)), .mov (.t 0)⟩,
       ⟨some 23, (some (4, true)), .mov (.t 3)⟩,
       ⟨some 24, (some (4, true)), .mov (.t 9)⟩,
       ⟨some 25, (some (4, true)), .bin .add (.t 23) (.t 24)⟩,
       ⟨some 26, (some (4, true)), .iaddr 1 (.t 22) (.t 25)⟩,
       ⟨some 27, (some (4, true)), .load 1 false (.t 26)⟩,
       ⟨some 28, (some (4, true)), .mov (.t 0)⟩,
       ⟨some 29, (some (4, true)), .mov (.t 3)⟩,
       ⟨some 30, (some (4, true)), .mov (.t 9)⟩,
       ⟨some 31, (some (4, true)), .bin .add (.t 29) (.t 30)⟩,
       ⟨some 32, (some (4, true)), .bin .add (.t 31) (.c (.d (.i .i64 1)))⟩,
       ⟨some 33, (some (4, true)), .iaddr 1 (.t 28) (.t 32)⟩,
       ⟨some 34, (some (4, true)), .load 1 false (.t 33)⟩,
       ⟨some 35, (some (4, true)), .call 105 [.t 27, .t 34]⟩,
       ⟨some 36, none, .pick (.t 21) (.t 35) (.c (.d (.b false)))⟩] true [0, 1, 0, 7, 15, 31, 31, 31, 223, 511, 1023, 31, 31, 31, 12319, 28703, 63519, 129055, 262143, 524287])
      (.keep [0, 2, 3, 8, 9, 36] (.cond (.t 36)
       (.keep [0, 2, 3, 8, 9] (.region [⟨some 37, none, .mov (.t 9)⟩,
        ⟨some 38, none, .bin .add (.t 37) (.c (.d (.i .i64 1)))⟩,
        ⟨some 9, none, .mov (.t 38)⟩] false []))
       (.skip))))
      (.keep [0, 2, 3, 8, 9] (.seq
      (.seq
       (.region [⟨some 39, none, .mov (.t 0)⟩,
        ⟨some 40, none, .mov (.t 3)⟩,
        ⟨some 41, none, .mov (.t 8)⟩,
        ⟨some 42, none, .bin .add (.t 40) (.t 41)⟩,
        ⟨some 43, none, .iaddr 1 (.t 39) (.t 42)⟩,
        ⟨some 44, none, .load 1 false (.t 43)⟩,
        ⟨some 45, none, .mov (.t 0)⟩,
        ⟨some 46, none, .mov (.t 3)⟩,
        ⟨some 47, none, .mov (.t 9)⟩,
        ⟨some 48, none, .bin .add (.t 46) (.t 47)⟩,
        ⟨some 49, none, .iaddr 1 (.t 45) (.t 48)⟩,
        ⟨some 50, none, .load 1 false (.t 49)⟩,
        ⟨some 51, none, .call 105 [.t 44, .t 50]⟩,
        ⟨some 52, none, .un .not (.t 51)⟩] true [0, 0, 0, 6, 15, 31, 0, 0, 0, 384, 960, 1984, 4095, 8191])
       (.keep [0, 2, 3, 8, 9, 52] (.cond (.t 52)
       (.ret)
       (.skip))))
      (.keep [0, 2, 3, 8, 9] (.seq
       (.region [⟨some 53, none, .mov (.t 0)⟩,
        ⟨some 54, none, .mov (.t 3)⟩,
        ⟨some 55, none, .mov (.t 8)⟩,
        ⟨some 56, none, .bin .add (.t 54) (.t 55)⟩,
        ⟨some 57, none, .mov (.t 0)⟩,
        ⟨some 58, none, .mov (.t 3)⟩,
        ⟨some 59, none, .mov (.t 9)⟩,
        ⟨some 60, none, .bin .add (.t 58) (.t 59)⟩,
        ⟨some 61, none, .mov (.t 0)⟩,
        ⟨some 62, none, .mov (.t 3)⟩,
        ⟨some 63, none, .mov (.t 9)⟩,
        ⟨some 64, none, .bin .add (.t 62) (.t 63)⟩,
        ⟨some 65, none, .iaddr 1 (.t 61) (.t 64)⟩,
        ⟨some 66, none, .load 1 false (.t 65)⟩,
        ⟨some 67, none, .mov (.t 0)⟩,
        ⟨some 68, none, .mov (.t 3)⟩,
        ⟨some 69, none, .mov (.t 8)⟩,
        ⟨some 70, none, .bin .add (.t 68) (.t 69)⟩,
        ⟨some 71, none, .iaddr 1 (.t 67) (.t 70)⟩,
        ⟨some 72, none, .load 1 false (.t 71)⟩,
        ⟨some 73, none, .iaddr 1 (.t 53) (.t 56)⟩,
        ⟨none, none, .store 1 (.t 73) (.t 66)⟩,
        ⟨some 74, none, .iaddr 1 (.t 57) (.t 60)⟩,
        ⟨none, none, .store 1 (.t 74) (.t 72)⟩] true [0, 0, 0, 6, 0, 0, 0, 96, 0, 0, 0, 1536, 3840, 7936, 0, 0, 0, 98304, 245760, 507904, 1048335, 2096911, 4194303, 8388607])
       (.keep [0, 2, 3, 9] (.region [⟨some 75, none, .mov (.t 9)⟩,
        ⟨some 8, none, .mov (.t 75)⟩] false [])))))))))))
/-- slices.siftDownOrdered[int] -/
def F110_slices_siftDownOrdered_int : SFn := ⟨4, false, false, [],
  .seq
   (.region [⟨some 10, none, .mov (.t 1)⟩,
    ⟨some 8, none, .mov (.t 10)⟩] false [])
   (.keep [0, 2, 3, 8] (.block 0 (.loop [0, 2, 3, 8] false F110_slices_siftDownOrdered_int_b0)))⟩

/-- slices.nextPowerOfTwo -/
def F111_slices_nextPowerOfTwo : SFn := ⟨1, true, true, [.tmp 2],
  .seq
   (.region [⟨some 2, none, .mov (.c (.d (.i .u64 0)))⟩] false [])
   (.keep [0] (.seq
   (.region [⟨some 3, none, .mov (.t 0)⟩,
    ⟨some 4, none, .conv .u64 (.t 3)⟩,
    ⟨some 5, none, .call 97 [.t 4]⟩,
    ⟨some 6, none, .bin .shl (.c (.d (.i .u64 1))) (.t 5)⟩,
    ⟨some 2, none, .mov (.t 6)⟩] false [])
   (.ret)))⟩

/-- (*slices.xorshift).Next -/
def F112_slices_xorshift_Next : SFn := ⟨1, false, false, [.tmp 2],
  .seq
   (.region [⟨some 2, none, .mov (.c (.d (.i .u64 0)))⟩] false [])
   (.keep [0] (.seq
   (.region [⟨some 3, none, .mov (.t 0)⟩,
    ⟨some 4, none, .nilChk (.t 3)⟩,
    ⟨some 5, none, .load 1 false (.t 4)⟩,
    ⟨some 6, none, .mov (.t 0)⟩,
    ⟨some 7, none, .nilChk (.t 6)⟩,
    ⟨some 8, none, .load 1 false (.t 7)⟩,
    ⟨some 9, none, .bin .shl (.t 8) (.c (.d (.i .u64 13)))⟩,
    ⟨some 10, none, .bin .xor (.t 5) (.t 9)⟩,
    ⟨some 11, none, .nilChk (.t 3)⟩,
    ⟨none, none, .store 1 (.t 11) (.t 10)⟩] true [0, 1, 3, 0, 8, 24, 56, 127, 255, 511])
   (.keep [0] (.seq
    (.region [⟨some 12, none, .mov (.t 0)⟩,
     ⟨some 13, none, .nilChk (.t 12)⟩,
     ⟨some 14, none, .load 1 false (.t 13)⟩,
     ⟨some 15, none, .mov (.t 0)⟩,
     ⟨some 16, none, .nilChk (.t 15)⟩,
     ⟨some 17, none, .load 1 false (.t 16)⟩,
     ⟨some 18, none, .bin .shr (.t 17) (.c (.d (.i .u64 7)))⟩,
     ⟨some 19, none, .bin .xor (.t 14) (.t 18)⟩,
     ⟨some 20, none, .nilChk (.t 12)⟩,
     ⟨none, none, .store 1 (.t 20) (.t 19)⟩] true [0, 1, 3, 0, 8, 24, 56, 127, 255, 511])
    (.keep [0] (.seq
    (.region [⟨some 21, none, .mov (.t 0)⟩,
     ⟨some 22, none, .nilChk (.t 21)⟩,
     ⟨some 23, none, .load 1 false (.t 22)⟩,
     ⟨some 24, none, .mov (.t 0)⟩,
     ⟨some 25, none, .nilChk (.t 24)⟩,
     ⟨some 26, none, .load 1 false (.t 25)⟩,
     ⟨some 27, none, .bin .shl (.t 26) (.c (.d (.i .u64 17)))⟩,
     ⟨some 28, none, .bin .xor (.t 23) (.t 27)⟩,
     ⟨some 29, none, .nilChk (.t 21)⟩,
     ⟨none, none, .store 1 (.t 29) (.t 28)⟩] true [0, 1, 3, 0, 8, 24, 56, 127, 255, 511])
    (.keep [0] (.seq
     (.region [⟨some 30, none, .mov (.t 0)⟩,
      ⟨some 31, none, .nilChk (.t 30)⟩,
      ⟨some 32, none, .load 1 false (.t 31)⟩,
      ⟨some 2, none, .mov (.t 32)⟩] false [])
     (.ret)))))))))⟩

/-- slices.medianAdjacentOrdered[int] -/
def F113_slices_medianAdjacentOrdered_int : SFn := ⟨3, true, true, [.tmp 6],
  .seq
   (.region [⟨some 6, none, .mov (.c (.d (.i .i64 0)))⟩] false [])
   (.keep [0, 1, 2] (.seq
   (.region [⟨some 7, none, .mov (.t 0)⟩,
    ⟨some 8, none, .mov (.t 1)⟩,
    ⟨some 9, none, .bin .sub (.t 8) (.c (.d (.i .i64 1)))⟩,
    ⟨some 10, none, .mov (.t 1)⟩,
    ⟨some 11, none, .mov (.t 1)⟩,
    ⟨some 12, none, .bin .add (.t 11) (.c (.d (.i .i64 1)))⟩,
    ⟨some 13, none, .mov (.t 2)⟩,
    ⟨some 14, none, .call 114 [.t 7, .t 9, .t 10, .t 12, .t 13]⟩,
    ⟨some 6, none, .mov (.t 14)⟩] false [])
   (.ret)))⟩

/-- slices.medianOrdered[int] -/
def F114_slices_medianOrdered_int : SFn := ⟨5, true, true, [.tmp 10],
  .seq
   (.region [⟨some 10, none, .mov (.c (.d (.i .i64 0)))⟩] false [])
   (.keep [0, 1, 2, 3, 4] (.seq
   (.region [⟨some 12, none, .mov (.t 0)⟩,
    ⟨some 13, none, .mov (.t 1)⟩,
    ⟨some 14, none, .mov (.t 2)⟩,
    ⟨some 15, none, .mov (.t 4)⟩,
    ⟨some 16, none, .call 116 [.t 12, .t 13, .t 14, .t 15]⟩,
    ⟨some 11, none, .mov (.t 16)⟩,
    ⟨some 17, none, .extract 0 (.t 11)⟩,
    ⟨some 18, none, .extract 1 (.t 11)⟩,
    ⟨some 1, none, .mov (.t 17)⟩,
    ⟨some 2, none, .mov (.t 18)⟩] false [])
   (.keep [0, 1, 2, 3, 4] (.seq
    (.region [⟨some 20, none, .mov (.t 0)⟩,
     ⟨some 21, none, .mov (.t 2)⟩,
     ⟨some 22, none, .mov (.t 3)⟩,
     ⟨some 23, none, .mov (.t 4)⟩,
     ⟨some 24, none, .call 116 [.t 20, .t 21, .t 22, .t 23]⟩,
     ⟨some 19, none, .mov (.t 24)⟩,
     ⟨some 25, none, .extract 0 (.t 19)⟩,
     ⟨some 26, none, .extract 1 (.t 19)⟩,
     ⟨some 2, none, .mov (.t 25)⟩,
     ⟨some 3, none, .mov (.t 26)⟩] false [])
    (.keep [0, 1, 2, 4] (.seq
    (.region [⟨some 28, none, .mov (.t 0)⟩,
     ⟨some 29, none, .mov (.t 1)⟩,
     ⟨some 30, none, .mov (.t 2)⟩,
     ⟨some 31, none, .mov (.t 4)⟩,
     ⟨some 32, none, .call 116 [.t 28, .t 29, .t 30, .t 31]⟩,
     ⟨some 27, none, .mov (.t 32)⟩,
     ⟨some 33, none, .extract 0 (.t 27)⟩,
     ⟨some 34, none, .extract 1 (.t 27)⟩,
     ⟨some 1, none, .mov (.t 33)⟩,
     ⟨some 2, none, .mov (.t 34)⟩] false [])
    (.keep [2] (.seq
     (.region [⟨some 35, none, .mov (.t 2)⟩,
      ⟨some 10, none, .mov (.t 35)⟩] false [])
     (.ret)))))))))⟩

/-- slices.order2Ordered[int] -/
def F116_slices_order2Ordered_int : SFn := ⟨4, true, true, [.tmp 8, .tmp 9],
  .seq
   (.region [⟨some 8, none, .mov (.c (.d (.i .i64 0)))⟩,
    ⟨some 9, none, .mov (.c (.d (.i .i64 0)))⟩] false [])
   (.keep [0, 1, 2, 3] (.seq
   (.seq
    (.region [⟨some 10, none, .mov (.t 0)⟩,
     ⟨some 11, none, .mov (.t 2)⟩,
     ⟨some 12, none, .iaddr 1 (.t 10) (.t 11)⟩,
     ⟨some 13, none, .load 1 false (.t 12)⟩,
     ⟨some 14, none, .mov (.t 0)⟩,
     ⟨some 15, none, .mov (.t 1)⟩,
     ⟨some 16, none, .iaddr 1 (.t 14) (.t 15)⟩,
     ⟨some 17, none, .load 1 false (.t 16)⟩,
     ⟨some 18, none, .call 105 [.t 13, .t 17]⟩] true [0, 0, 3, 7, 0, 0, 48, 112, 255])
    (.keep [1, 2, 3, 18] (.cond (.t 18)
    (.keep [1, 2, 3] (.seq
     (.region [⟨some 19, none, .mov (.t 3)⟩,
      ⟨some 20, none, .nilChk (.t 19)⟩,
      ⟨some 21, none, .load 1 false (.t 20)⟩,
      ⟨some 22, none, .bin .add (.t 21) (.c (.d (.i .i64 1)))⟩,
      ⟨some 23, none, .nilChk (.t 19)⟩,
      ⟨none, none, .store 1 (.t 23) (.t 22)⟩] false [])
     (.keep [1, 2] (.seq
     (.region [⟨some 24, none, .mov (.t 2)⟩,
      ⟨some 25, none, .mov (.t 1)⟩,
      ⟨some 8, none, .mov (.t 24)⟩,
      ⟨some 9, none, .mov (.t 25)⟩] false [])
     (.ret)))))
    (.skip))))
   (.keep [1, 2] (.seq
    (.region [⟨some 26, none, .mov (.t 1)⟩,
     ⟨some 27, none, .mov (.t 2)⟩,
     ⟨some 8, none, .mov (.t 26)⟩,
     ⟨some 9, none, .mov (.t 27)⟩] false [])
    (.ret)))))⟩

def F149_slices_BinarySearch_int_int_b0 : SCode :=
  .seq
      (.seq
      (.region [⟨some 13, none, .mov (.t 7)⟩,
       ⟨some 14, none, .mov (.t 8)⟩,
       ⟨some 15, none, .bin .lss (.t 13) (.t 14)⟩] false [])
      (.keep [0, 1, 6, 7, 8, 15] (.cond (.t 15)
       (.skip)
       (.exit 0))))
      (.keep [0, 1, 6, 7, 8] (.block 1 (.seq
       (.region [⟨some 16, none, .mov (.t 7)⟩,
        ⟨some 17, none, .mov (.t 8)⟩,
        ⟨some 18, none, .bin .add (.t 16) (.t 17)⟩,
        ⟨some 19, none, .conv .u64 (.t 18)⟩,
        ⟨some 20, none, .bin .shr (.t 19) (.c (.d (.i .u64 1)))⟩,
        ⟨some 21, none, .conv .i64 (.t 20)⟩,
        ⟨some 9, none, .mov (.t 21)⟩] false [])
       (.keep [0, 1, 6, 7, 8, 9] (.seq
       (.region [⟨some 22, none, .mov (.t 0)⟩,
        ⟨some 23, none, .mov (.t 9)⟩,
        ⟨some 24, none, .iaddr 1 (.t 22) (.t 23)⟩,
        ⟨some 25, none, .load 1 false (.t 24)⟩,
        ⟨some 26, none, .mov (.t 1)⟩,
        ⟨some 27, none, .call 105 [.t 25, .t 26]⟩] false [])
       (.keep [0, 1, 6, 7, 8, 9, 27] (.cond (.t 27)
        (.keep [0, 1, 6, 8, 9] (.region [⟨some 28, none, .mov (.t 9)⟩,
         ⟨some 29, none, .bin .add (.t 28) (.c (.d (.i .i64 1)))⟩,
         ⟨some 7, none, .mov (.t 29)⟩] false []))
        (.keep [0, 1, 6, 7, 9] (.region [⟨some 30, none, .mov (.t 9)⟩,
         ⟨some 8, none, .mov (.t 30)⟩] false [])))))))))
/-- slices.BinarySearch[[]int,int] -/
def F149_slices_BinarySearch_int_int : SFn := ⟨2, true, true, [.tmp 4, .tmp 5],
  .seq
   (.region [⟨some 4, none, .mov (.c (.d (.i .i64 0)))⟩,
    ⟨some 5, none, .mov (.c (.d (.b false)))⟩] false [])
   (.keep [0, 1] (.seq
   (.region [⟨some 10, none, .mov (.t 0)⟩,
    ⟨some 11, none, .len false (.t 10)⟩,
    ⟨some 6, none, .mov (.t 11)⟩] false [])
   (.keep [0, 1, 6] (.seq
    (.region [⟨some 12, none, .mov (.t 6)⟩,
     ⟨some 7, none, .mov (.c (.d (.i .i64 0)))⟩,
     ⟨some 8, none, .mov (.t 12)⟩] false [])
    (.keep [0, 1, 6, 7, 8] (.seq
    (.block 0 (.loop [0, 1, 6, 7, 8] false F149_slices_BinarySearch_int_int_b0))
    (.keep [0, 1, 6, 7] (.seq
     (.region [⟨some 31, none, .mov (.t 7)⟩,
      ⟨some 32, none, .mov (.t 7)⟩,
      ⟨some 33, none, .mov (.t 6)⟩,
      ⟨some 34, none, .bin .lss (.t 32) (.t 33)⟩,
      ⟨some 35, none, .mov (.t 34)⟩,
      ⟨some 36, (some (4, true)), .mov (.t 0)⟩,
      ⟨some 37, (some (4, true)), .mov (.t 7)⟩,
      ⟨some 38, (some (4, true)), .iaddr 1 (.t 36) (.t 37)⟩,
      ⟨some 39, (some (4, true)), .load 1 false (.t 38)⟩,
      ⟨some 40, (some (4, true)), .mov (.t 1)⟩,
      ⟨some 41, (some (4, true)), .bin .eql (.t 39) (.t 40)⟩,
      ⟨some 42, (some (4, true)), .mov (.t 41)⟩,
      ⟨some 43, (some (11, false)), .mov (.t 0)⟩,
      ⟨some 44, (some (11, false)), .mov (.t 7)⟩,
      ⟨some 45, (some (11, false)), .iaddr 1 (.t 43) (.t 44)⟩,
      ⟨some 46, (some (11, false)), .load 1 false (.t 45)⟩,
      ⟨some 47, (some (11, false)), .call 152 [.t 46]⟩,
      ⟨some 48, (some (11, false)), .mov (.t 47)⟩,
      ⟨some 49, (some (17, true)), .mov (.t 1)⟩,
      ⟨some 50, (some (17, true)), .call 152 [.t 49]⟩,
      ⟨some 51, (some (11, false)), .pick (.t 48) (.t 50) (.c (.d (.b false)))⟩,
      ⟨some 52, (some (4, true)), .pick (.t 42) (.c (.d (.b true))) (.t 51)⟩,
      ⟨some 53, none, .pick (.t 35) (.t 52) (.c (.d (.b false)))⟩,
      ⟨some 4, none, .mov (.t 31)⟩,
      ⟨some 5, none, .mov (.t 53)⟩] false [])
     (.ret)))))))))⟩

/-- slices.isNaN[int] -/
def F152_slices_isNaN_int : SFn := ⟨1, true, true, [.tmp 2],
  .seq
   (.region [⟨some 2, none, .mov (.c (.d (.b false)))⟩] false [])
   (.keep [0] (.seq
   (.region [⟨some 3, none, .mov (.t 0)⟩,
    ⟨some 4, none, .mov (.t 0)⟩,
    ⟨some 5, none, .bin .neq (.t 3) (.t 4)⟩,
    ⟨some 2, none, .mov (.t 5)⟩] false [])
   (.ret)))⟩

/-- slices.Clone[[]string,string] -/
def F173_slices_Clone_string_string : SFn := ⟨1, true, true, [.tmp 2],
  .seq
   (.region [⟨some 2, none, .mov (.c (.d (.sl 0 false [])))⟩] false [])
   (.keep [0] (.seq
   (.seq
    (.region [⟨some 3, none, .mov (.t 0)⟩,
     ⟨some 4, none, .eqv false [11] (.t 3) (.c (.d (.sl 0 false [])))⟩] false [])
    (.keep [0, 4] (.cond (.t 4)
    (.keep [] (.seq
     (.region [⟨some 2, none, .mov (.c (.d (.sl 0 false [])))⟩] false [])
     (.ret)))
    (.skip))))
   (.keep [0] (.seq
    (.region [⟨some 5, none, .litsO 0 [.s []] []⟩,
     ⟨some 6, none, .mov (.t 0)⟩,
     ⟨some 7, none, .app 1 16 (.t 5) (.t 6)⟩,
     ⟨some 2, none, .mov (.t 7)⟩] false [])
    (.ret)))))⟩
end Go.Sh
