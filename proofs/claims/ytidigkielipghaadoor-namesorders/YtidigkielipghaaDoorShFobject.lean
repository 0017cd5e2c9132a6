/- Shadow functions of object, written by tr.py. -/
import Derived.Test.YtidigkielipghaaDoorShBa
namespace Go.Sh
def F330_object_Check_b0 : SCode :=
  .seq
      (.region [⟨some 29, none, .bin .lss (.t 28) (.t 27)⟩] false [])
      (.keep [1, 5, 26, 27, 28, 29] (.seq
       (.cond (.t 29)
       (.skip)
       (.exit 0))
       (.keep [1, 5, 26, 27, 28] (.seq
       (.block 1 (.seq
        (.region [⟨some 30, none, .mov (.t 28)⟩,
         ⟨some 31, none, .iaddr 1 (.t 26) (.t 28)⟩,
         ⟨some 32, none, .load 1 false (.t 31)⟩,
         ⟨some 6, none, .mov (.t 30)⟩,
         ⟨some 7, none, .mov (.t 32)⟩] false [])
        (.keep [1, 5, 6, 7, 26, 27, 28] (.seq
         (.region [⟨some 33, none, .mov (.t 7)⟩,
          ⟨some 34, none, .call 339 [.t 33]⟩,
          ⟨some 35, none, .un .not (.t 34)⟩] false [])
         (.keep [1, 5, 6, 26, 27, 28, 35] (.cond (.t 35)
         (.keep [6] (.seq
          (.region [⟨some 36, none, .mov (.t 6)⟩,
           ⟨some 2, none, .mov (.t 36)⟩,
           ⟨some 3, none, .mov (.c (.d (.i .i64 122)))⟩] false [])
          (.ret)))
         (.skip)))))))
       (.keep [1, 5, 26, 27, 28] (.region [⟨some 37, none, .bin .add (.t 28) (.c (.d (.i .i64 1)))⟩,
        ⟨some 28, none, .mov (.t 37)⟩] false []))))))
def F330_object_Check_b1 : SCode :=
  .seq
       (.region [⟨some 42, none, .bin .lss (.t 41) (.t 40)⟩] false [])
       (.keep [1, 8, 39, 40, 41, 42] (.seq
        (.cond (.t 42)
        (.skip)
        (.exit 2))
        (.keep [1, 8, 39, 40, 41] (.seq
        (.block 3 (.seq
         (.region [⟨some 43, none, .mov (.t 41)⟩,
          ⟨some 44, none, .iaddr 1 (.t 39) (.t 41)⟩,
          ⟨some 45, none, .load 1 false (.t 44)⟩,
          ⟨some 9, none, .mov (.t 43)⟩,
          ⟨some 10, none, .mov (.t 45)⟩] false [])
         (.keep [1, 8, 9, 10, 39, 40, 41] (.seq
          (.seq
          (.region [⟨some 47, none, .mov (.t 8)⟩,
           ⟨some 48, none, .mov (.t 10)⟩,
           ⟨some 49, none, .look true true [.i .i64 0] false (.t 47) (.t 48)⟩,
           ⟨some 46, none, .mov (.t 49)⟩,
           ⟨some 50, none, .extract 0 (.t 46)⟩,
           ⟨some 51, none, .extract 1 (.t 46)⟩,
           ⟨some 11, none, .mov (.t 50)⟩,
           ⟨some 12, none, .mov (.t 51)⟩] false [])
          (.keep [1, 8, 9, 10, 12, 39, 40, 41] (.seq
           (.region [⟨some 52, none, .mov (.t 12)⟩] false [])
           (.keep [1, 8, 9, 10, 39, 40, 41, 52] (.cond (.t 52)
           (.keep [9] (.seq
            (.region [⟨some 53, none, .mov (.t 9)⟩,
             ⟨some 2, none, .mov (.t 53)⟩,
             ⟨some 3, none, .mov (.c (.d (.i .i64 123)))⟩] false [])
            (.ret)))
           (.skip))))))
          (.keep [1, 8, 9, 10, 39, 40, 41] (.region [⟨some 54, none, .mov (.t 8)⟩,
           ⟨some 55, none, .mov (.t 10)⟩,
           ⟨some 56, none, .mov (.t 9)⟩,
           ⟨none, none, .mapSet true (.t 54) (.t 55) (.t 56)⟩] false []))))))
        (.keep [1, 8, 39, 40, 41] (.region [⟨some 57, none, .bin .add (.t 41) (.c (.d (.i .i64 1)))⟩,
         ⟨some 41, none, .mov (.t 57)⟩] false []))))))
def F330_object_Check_b2 : SCode :=
  .seq
        (.region [⟨some 67, none, .bin .lss (.t 66) (.t 65)⟩] false [])
        (.keep [1, 64, 65, 66, 67] (.seq
         (.cond (.t 67)
         (.skip)
         (.exit 4))
         (.keep [1, 64, 65, 66] (.seq
         (.block 5 (.seq
          (.region [⟨some 68, none, .mov (.t 66)⟩,
           ⟨some 69, none, .iaddr 5 (.t 64) (.t 66)⟩,
           ⟨some 70, none, .load 5 true (.t 69)⟩,
           ⟨some 15, none, .alloc [.s [], .i .i64 0, .i .i64 0, .i .i64 0, .i .i64 0]⟩,
           ⟨some 14, none, .mov (.t 68)⟩,
           ⟨none, none, .store 5 (.t 15) (.t 70)⟩] false [])
          (.keep [1, 14, 15, 64, 65, 66] (.seq
           (.region [⟨some 71, none, .load 5 true (.t 15)⟩,
            ⟨some 72, none, .call 341 [.t 71]⟩,
            ⟨some 73, none, .un .not (.t 72)⟩] false [])
           (.keep [1, 14, 64, 65, 66, 73] (.cond (.t 73)
           (.keep [14] (.seq
            (.region [⟨some 74, none, .mov (.t 14)⟩,
             ⟨some 2, none, .mov (.t 74)⟩,
             ⟨some 3, none, .mov (.c (.d (.i .i64 125)))⟩] false [])
            (.ret)))
           (.skip)))))))
         (.keep [1, 64, 65, 66] (.region [⟨some 75, none, .bin .add (.t 66) (.c (.d (.i .i64 1)))⟩,
          ⟨some 66, none, .mov (.t 75)⟩] false []))))))
def F330_object_Check_b3 : SCode :=
  .seq
         (.region [⟨some 80, none, .bin .lss (.t 79) (.t 78)⟩] false [])
         (.keep [1, 77, 78, 79, 80] (.seq
         (.cond (.t 80)
          (.skip)
          (.exit 6))
         (.keep [1, 77, 78, 79] (.seq
          (.block 7 (.seq
           (.region [⟨some 81, none, .mov (.t 79)⟩,
            ⟨some 82, none, .iaddr 5 (.t 77) (.t 79)⟩,
            ⟨some 83, none, .load 5 true (.t 82)⟩,
            ⟨some 17, none, .alloc [.i .i64 0, .i .i64 0, .i .i64 0, .i .i64 0, .i .i64 0]⟩,
            ⟨some 16, none, .mov (.t 81)⟩,
            ⟨none, none, .store 5 (.t 17) (.t 83)⟩] false [])
           (.keep [1, 16, 17, 77, 78, 79] (.seq
           (.region [⟨some 84, none, .load 5 true (.t 17)⟩,
            ⟨some 85, none, .call 342 [.t 84]⟩,
            ⟨some 86, none, .un .not (.t 85)⟩] false [])
           (.keep [1, 16, 77, 78, 79, 86] (.cond (.t 86)
            (.keep [16] (.seq
            (.region [⟨some 87, none, .mov (.t 16)⟩,
             ⟨some 2, none, .mov (.t 87)⟩,
             ⟨some 3, none, .mov (.c (.d (.i .i64 126)))⟩] false [])
            (.ret)))
            (.skip)))))))
          (.keep [1, 77, 78, 79] (.region [⟨some 88, none, .bin .add (.t 79) (.c (.d (.i .i64 1)))⟩,
           ⟨some 79, none, .mov (.t 88)⟩] false []))))))
/-- spindle/object.Check -/
def F330_object_Check : SFn := ⟨1, true, true, [.tmp 2, .tmp 3],
  .seq
   (.region [⟨some 1, none, .box (.t 0)⟩,
    ⟨some 2, none, .mov (.c (.d (.i .i64 0)))⟩,
    ⟨some 3, none, .mov (.c (.d (.i .i64 0)))⟩] false [])
   (.keep [1] (.seq
   (.seq
    (.region [⟨some 19, none, .load 5 true (.t 1)⟩,
     ⟨some 20, none, .call 337 [.t 19]⟩,
     ⟨some 4, none, .mov (.t 20)⟩] false [])
    (.keep [1, 4] (.seq
    (.region [⟨some 21, none, .mov (.t 4)⟩,
     ⟨some 22, none, .bin .geq (.t 21) (.c (.d (.i .i64 0)))⟩] false [])
    (.keep [1, 4, 22] (.cond (.t 22)
     (.keep [4] (.seq
     (.region [⟨some 23, none, .mov (.t 4)⟩,
      ⟨some 2, none, .mov (.t 23)⟩,
      ⟨some 3, none, .mov (.c (.d (.i .i64 121)))⟩] false [])
     (.ret)))
     (.skip))))))
   (.keep [1] (.seq
    (.region [⟨some 24, none, .load 5 true (.t 1)⟩,
     ⟨some 25, none, .call 338 [.t 24]⟩,
     ⟨some 5, none, .mov (.t 25)⟩] false [])
    (.keep [1, 5] (.seq
    (.seq
     (.region [⟨some 26, none, .mov (.t 5)⟩,
      ⟨some 27, none, .len false (.t 26)⟩,
      ⟨some 28, none, .mov (.c (.d (.i .i64 0)))⟩] false [])
     (.keep [1, 5, 26, 27, 28] (.block 0 (.loop [1, 5, 26, 27, 28] false F330_object_Check_b0))))
    (.keep [1, 5] (.seq
     (.region [⟨some 38, none, .mkMap none⟩,
      ⟨some 8, none, .mov (.t 38)⟩] false [])
     (.keep [1, 5, 8] (.seq
     (.seq
      (.region [⟨some 39, none, .mov (.t 5)⟩,
       ⟨some 40, none, .len false (.t 39)⟩,
       ⟨some 41, none, .mov (.c (.d (.i .i64 0)))⟩] false [])
      (.keep [1, 8, 39, 40, 41] (.block 2 (.loop [1, 8, 39, 40, 41] false F330_object_Check_b1))))
     (.keep [1] (.seq
      (.seq
      (.region [⟨some 58, none, .load 5 true (.t 1)⟩,
       ⟨some 59, none, .call 340 [.t 58]⟩,
       ⟨some 13, none, .mov (.t 59)⟩] false [])
      (.keep [1, 13] (.seq
       (.region [⟨some 60, none, .mov (.t 13)⟩,
        ⟨some 61, none, .bin .geq (.t 60) (.c (.d (.i .i64 0)))⟩] false [])
       (.keep [1, 13, 61] (.cond (.t 61)
       (.keep [13] (.seq
        (.region [⟨some 62, none, .mov (.t 13)⟩,
         ⟨some 2, none, .mov (.t 62)⟩,
         ⟨some 3, none, .mov (.c (.d (.i .i64 124)))⟩] false [])
        (.ret)))
       (.skip))))))
      (.keep [1] (.seq
      (.seq
       (.region [⟨some 63, none, .faddr 2 (.t 1)⟩,
        ⟨some 64, none, .load 1 false (.t 63)⟩,
        ⟨some 65, none, .len false (.t 64)⟩,
        ⟨some 66, none, .mov (.c (.d (.i .i64 0)))⟩] false [])
       (.keep [1, 64, 65, 66] (.block 4 (.loop [1, 64, 65, 66] true F330_object_Check_b2))))
      (.keep [1] (.seq
       (.seq
       (.region [⟨some 76, none, .faddr 0 (.t 1)⟩,
        ⟨some 77, none, .load 1 false (.t 76)⟩,
        ⟨some 78, none, .len false (.t 77)⟩,
        ⟨some 79, none, .mov (.c (.d (.i .i64 0)))⟩] false [])
       (.keep [1, 77, 78, 79] (.block 6 (.loop [1, 77, 78, 79] true F330_object_Check_b3))))
       (.keep [1] (.seq
       (.seq
        (.region [⟨some 89, none, .load 5 true (.t 1)⟩,
         ⟨some 90, none, .call 343 [.t 89]⟩,
         ⟨some 18, none, .mov (.t 90)⟩] false [])
        (.keep [18] (.seq
        (.region [⟨some 91, none, .mov (.t 18)⟩,
         ⟨some 92, none, .bin .geq (.t 91) (.c (.d (.i .i64 0)))⟩] false [])
        (.keep [18, 92] (.cond (.t 92)
         (.keep [18] (.seq
         (.region [⟨some 93, none, .mov (.t 18)⟩,
          ⟨some 2, none, .mov (.t 93)⟩,
          ⟨some 3, none, .mov (.c (.d (.i .i64 127)))⟩] false [])
         (.ret)))
         (.skip))))))
       (.keep [] (.seq
        (.region [⟨some 2, none, .mov (.c (.d (.i .i64 0)))⟩,
         ⟨some 3, none, .mov (.c (.d (.i .i64 0)))⟩] false [])
        (.ret)))))))))))))))))))))⟩

/-- spindle/object.many -/
def F337_object_many : SFn := ⟨1, true, true, [.tmp 2],
  .seq
   (.region [⟨some 1, none, .box (.t 0)⟩,
    ⟨some 2, none, .mov (.c (.d (.i .i64 0)))⟩] false [])
   (.keep [1] (.seq
   (.block 0 (.seq
    (.region [⟨some 4, none, .faddr 0 (.t 1)⟩,
     ⟨some 5, none, .load 1 false (.t 4)⟩,
     ⟨some 6, none, .call 0 [.t 5]⟩,
     ⟨some 7, none, .bin .gtr (.t 6) (.c (.d (.i .i64 65536)))⟩,
     ⟨some 3, none, .mov (.t 7)⟩] false [])
    (.keep [1, 3] (.cond (.t 3)
     (.keep [] (.seq
     (.region [⟨some 2, none, .mov (.c (.d (.i .i64 0)))⟩] false [])
     (.ret)))
     (.keep [1] (.seq
     (.region [⟨some 9, none, .faddr 1 (.t 1)⟩,
      ⟨some 10, none, .load 1 false (.t 9)⟩,
      ⟨some 11, none, .len false (.t 10)⟩,
      ⟨some 12, none, .bin .gtr (.t 11) (.c (.d (.i .i64 1024)))⟩,
      ⟨some 8, none, .mov (.t 12)⟩] false [])
     (.keep [1, 8] (.cond (.t 8)
      (.keep [] (.seq
      (.region [⟨some 2, none, .mov (.c (.d (.i .i64 1)))⟩] false [])
      (.ret)))
      (.keep [1] (.seq
      (.region [⟨some 14, none, .faddr 2 (.t 1)⟩,
       ⟨some 15, none, .load 1 false (.t 14)⟩,
       ⟨some 16, none, .len false (.t 15)⟩,
       ⟨some 17, none, .bin .gtr (.t 16) (.c (.d (.i .i64 1024)))⟩,
       ⟨some 13, none, .mov (.t 17)⟩] false [])
      (.keep [1, 13] (.cond (.t 13)
       (.keep [] (.seq
       (.region [⟨some 2, none, .mov (.c (.d (.i .i64 2)))⟩] false [])
       (.ret)))
       (.keep [1] (.seq
       (.region [⟨some 19, none, .faddr 3 (.t 1)⟩,
        ⟨some 20, none, .load 1 false (.t 19)⟩,
        ⟨some 21, none, .len false (.t 20)⟩,
        ⟨some 22, none, .bin .gtr (.t 21) (.c (.d (.i .i64 1024)))⟩,
        ⟨some 18, none, .mov (.t 22)⟩] false [])
       (.keep [18] (.cond (.t 18)
        (.keep [] (.seq
        (.region [⟨some 2, none, .mov (.c (.d (.i .i64 3)))⟩] false [])
        (.ret)))
        (.skip)))))))))))))))))
   (.keep [] (.seq
    (.region [⟨some 2, none, .mov (.c (.d (.i .i64 (-1))))⟩] false [])
    (.ret)))))⟩

def F338_object_names_b0 : SCode :=
  .seq
      (.region [⟨some 12, none, .bin .lss (.t 11) (.t 10)⟩] false [])
      (.keep [1, 3, 9, 10, 11, 12] (.seq
      (.cond (.t 12)
       (.skip)
       (.exit 0))
      (.keep [1, 3, 9, 10, 11] (.seq
       (.block 1 (.seq
        (.region [⟨some 13, none, .iaddr 4 (.t 9) (.t 11)⟩,
         ⟨some 14, none, .load 4 true (.t 13)⟩,
         ⟨some 5, none, .alloc [.s [], .b false, .i .i64 0, .i .i64 0]⟩,
         ⟨none, none, .store 4 (.t 5) (.t 14)⟩] false [])
        (.keep [1, 3, 5, 9, 10, 11] (.region [⟨some 15, none, .mov (.t 3)⟩,
         ⟨some 16, none, .faddr 0 (.t 5)⟩,
         ⟨some 17, none, .load 1 false (.t 16)⟩,
         ⟨some 18, none, .lits 1 [.s []] [(0, 1, .t 17)]⟩,
         ⟨some 19, none, .app 1 16 (.t 15) (.t 18)⟩,
         ⟨some 3, none, .mov (.t 19)⟩] false []))))
       (.keep [1, 3, 9, 10, 11] (.region [⟨some 20, none, .bin .add (.t 11) (.c (.d (.i .i64 1)))⟩,
        ⟨some 11, none, .mov (.t 20)⟩] false []))))))
def F338_object_names_b1 : SCode :=
  .seq
      (.region [⟨some 25, none, .bin .lss (.t 24) (.t 23)⟩] false [])
      (.keep [1, 3, 22, 23, 24, 25] (.seq
       (.cond (.t 25)
       (.skip)
       (.exit 2))
       (.keep [1, 3, 22, 23, 24] (.seq
       (.block 3 (.seq
        (.region [⟨some 26, none, .iaddr 5 (.t 22) (.t 24)⟩,
         ⟨some 27, none, .load 5 true (.t 26)⟩,
         ⟨some 7, none, .alloc [.s [], .i .i64 0, .i .i64 0, .i .i64 0, .i .i64 0]⟩,
         ⟨none, none, .store 5 (.t 7) (.t 27)⟩] false [])
        (.keep [1, 3, 7, 22, 23, 24] (.region [⟨some 28, none, .mov (.t 3)⟩,
         ⟨some 29, none, .faddr 0 (.t 7)⟩,
         ⟨some 30, none, .load 1 false (.t 29)⟩,
         ⟨some 31, none, .lits 1 [.s []] [(0, 1, .t 30)]⟩,
         ⟨some 32, none, .app 1 16 (.t 28) (.t 31)⟩,
         ⟨some 3, none, .mov (.t 32)⟩] false []))))
       (.keep [1, 3, 22, 23, 24] (.region [⟨some 33, none, .bin .add (.t 24) (.c (.d (.i .i64 1)))⟩,
        ⟨some 24, none, .mov (.t 33)⟩] false []))))))
/-- spindle/object.names -/
def F338_object_names : SFn := ⟨1, true, true, [.tmp 2],
  .seq
   (.region [⟨some 1, none, .box (.t 0)⟩,
    ⟨some 2, none, .mov (.c (.d (.sl 0 false [])))⟩] false [])
   (.keep [1] (.seq
   (.region [⟨some 3, none, .tok 1 (.c (.d (.sl 0 false [])))⟩] false [])
   (.keep [1, 3] (.seq
    (.seq
    (.region [⟨some 8, none, .faddr 1 (.t 1)⟩,
     ⟨some 9, none, .load 1 false (.t 8)⟩,
     ⟨some 10, none, .len false (.t 9)⟩,
     ⟨some 11, none, .mov (.c (.d (.i .i64 0)))⟩] false [])
    (.keep [1, 3, 9, 10, 11] (.block 0 (.loop [1, 3, 9, 10, 11] true F338_object_names_b0))))
    (.keep [1, 3] (.seq
    (.seq
     (.region [⟨some 21, none, .faddr 2 (.t 1)⟩,
      ⟨some 22, none, .load 1 false (.t 21)⟩,
      ⟨some 23, none, .len false (.t 22)⟩,
      ⟨some 24, none, .mov (.c (.d (.i .i64 0)))⟩] false [])
     (.keep [1, 3, 22, 23, 24] (.block 2 (.loop [1, 3, 22, 23, 24] true F338_object_names_b1))))
    (.keep [1, 3] (.seq
     (.region [⟨some 34, none, .mov (.t 3)⟩,
      ⟨some 35, none, .faddr 3 (.t 1)⟩,
      ⟨some 36, none, .load 1 false (.t 35)⟩,
      ⟨some 37, none, .app 1 16 (.t 34) (.t 36)⟩,
      ⟨some 2, none, .mov (.t 37)⟩] false [])
     (.ret)))))))))⟩

def F339_object_named_b0 : SCode :=
  .seq
      (.region [⟨some 16, none, .bin .lss (.t 15) (.t 14)⟩] false [])
      (.keep [0, 14, 15, 16] (.seq
      (.cond (.t 16)
       (.skip)
       (.exit 0))
      (.keep [0, 14, 15] (.seq
       (.block 1 (.seq
        (.region [⟨some 17, none, .mov (.t 15)⟩,
         ⟨some 3, none, .mov (.t 17)⟩] false [])
        (.keep [0, 3, 14, 15] (.seq
        (.region [⟨some 18, none, .mov (.t 0)⟩,
         ⟨some 19, none, .mov (.t 3)⟩,
         ⟨some 20, none, .idxS (.t 18) (.t 19)⟩,
         ⟨some 4, none, .mov (.t 20)⟩] false [])
        (.keep [0, 3, 4, 14, 15] (.seq
         (.region [⟨some 21, none, .mov (.t 4)⟩,
          ⟨some 22, none, .bin .eql (.t 21) (.c (.d (.i .u8 95)))⟩,
          ⟨some 23, none, .mov (.t 22)⟩,
          ⟨some 24, (some (2, false)), .mov (.t 4)⟩,
          ⟨some 25, (some (2, false)), .bin .geq (.t 24) (.c (.d (.i .u8 97)))⟩,
          ⟨some 26, (some (2, false)), .mov (.t 25)⟩,
          ⟨some 27, (some (5, true)), .mov (.t 4)⟩,
          ⟨some 28, (some (5, true)), .bin .leq (.t 27) (.c (.d (.i .u8 122)))⟩,
          ⟨some 29, (some (2, false)), .pick (.t 26) (.t 28) (.c (.d (.b false)))⟩,
          ⟨some 30, none, .pick (.t 23) (.c (.d (.b true))) (.t 29)⟩,
          ⟨some 31, none, .mov (.t 30)⟩,
          ⟨some 32, (some (10, false)), .mov (.t 4)⟩,
          ⟨some 33, (some (10, false)), .bin .geq (.t 32) (.c (.d (.i .u8 65)))⟩,
          ⟨some 34, (some (10, false)), .mov (.t 33)⟩,
          ⟨some 35, (some (13, true)), .mov (.t 4)⟩,
          ⟨some 36, (some (13, true)), .bin .leq (.t 35) (.c (.d (.i .u8 90)))⟩,
          ⟨some 37, (some (10, false)), .pick (.t 34) (.t 36) (.c (.d (.b false)))⟩,
          ⟨some 38, none, .pick (.t 31) (.c (.d (.b true))) (.t 37)⟩,
          ⟨some 5, none, .mov (.t 38)⟩] false [])
         (.keep [0, 3, 4, 5, 14, 15] (.seq
         (.region [⟨some 39, none, .mov (.t 5)⟩,
          ⟨some 40, none, .un .not (.t 39)⟩,
          ⟨some 41, none, .mov (.t 40)⟩,
          ⟨some 42, (some (2, true)), .mov (.t 3)⟩,
          ⟨some 43, (some (2, true)), .bin .eql (.t 42) (.c (.d (.i .i64 0)))⟩,
          ⟨some 44, (some (2, true)), .mov (.t 43)⟩,
          ⟨some 45, (some (5, false)), .mov (.t 4)⟩,
          ⟨some 46, (some (5, false)), .bin .geq (.t 45) (.c (.d (.i .u8 48)))⟩,
          ⟨some 47, (some (5, false)), .mov (.t 46)⟩,
          ⟨some 48, (some (8, true)), .mov (.t 4)⟩,
          ⟨some 49, (some (8, true)), .bin .leq (.t 48) (.c (.d (.i .u8 57)))⟩,
          ⟨some 50, (some (5, false)), .pick (.t 47) (.t 49) (.c (.d (.b false)))⟩,
          ⟨some 51, (some (5, false)), .mov (.t 50)⟩,
          ⟨some 52, (some (12, false)), .mov (.t 4)⟩,
          ⟨some 53, (some (12, false)), .bin .eql (.t 52) (.c (.d (.i .u8 46)))⟩,
          ⟨some 54, (some (5, false)), .pick (.t 51) (.c (.d (.b true))) (.t 53)⟩,
          ⟨some 55, (some (5, false)), .mov (.t 54)⟩,
          ⟨some 56, (some (16, false)), .mov (.t 4)⟩,
          ⟨some 57, (some (16, false)), .bin .eql (.t 56) (.c (.d (.i .u8 36)))⟩,
          ⟨some 58, (some (5, false)), .pick (.t 55) (.c (.d (.b true))) (.t 57)⟩,
          ⟨some 59, (some (5, false)), .un .not (.t 58)⟩,
          ⟨some 60, (some (2, true)), .pick (.t 44) (.c (.d (.b true))) (.t 59)⟩,
          ⟨some 61, none, .pick (.t 41) (.t 60) (.c (.d (.b false)))⟩] false [])
         (.keep [0, 14, 15, 61] (.cond (.t 61)
          (.keep [] (.seq
          (.region [⟨some 2, none, .mov (.c (.d (.b false)))⟩] false [])
          (.ret)))
          (.skip)))))))))))
       (.keep [0, 14, 15] (.region [⟨some 62, none, .bin .add (.t 15) (.c (.d (.i .i64 1)))⟩,
        ⟨some 15, none, .mov (.t 62)⟩] false []))))))
/-- spindle/object.named -/
def F339_object_named : SFn := ⟨1, true, true, [.tmp 2],
  .seq
   (.region [⟨some 2, none, .mov (.c (.d (.b false)))⟩] false [])
   (.keep [0] (.seq
   (.seq
    (.region [⟨some 6, none, .mov (.t 0)⟩,
     ⟨some 7, none, .bin .eql (.t 6) (.c (.d (.s [])))⟩,
     ⟨some 8, none, .mov (.t 7)⟩,
     ⟨some 9, (some (2, false)), .mov (.t 0)⟩,
     ⟨some 10, (some (2, false)), .len true (.t 9)⟩,
     ⟨some 11, (some (2, false)), .bin .gtr (.t 10) (.c (.d (.i .i64 64)))⟩,
     ⟨some 12, none, .pick (.t 8) (.c (.d (.b true))) (.t 11)⟩] false [])
    (.keep [0, 12] (.cond (.t 12)
    (.keep [] (.seq
     (.region [⟨some 2, none, .mov (.c (.d (.b false)))⟩] false [])
     (.ret)))
    (.skip))))
   (.keep [0] (.seq
    (.seq
    (.region [⟨some 13, none, .mov (.t 0)⟩,
     ⟨some 14, none, .len true (.t 13)⟩,
     ⟨some 15, none, .mov (.c (.d (.i .i64 0)))⟩] false [])
    (.keep [0, 14, 15] (.block 0 (.loop [0, 14, 15] false F339_object_named_b0))))
    (.keep [] (.seq
    (.region [⟨some 2, none, .mov (.c (.d (.b true)))⟩] false [])
    (.ret)))))))⟩

def F340_object_cut_b0 : SCode :=
  .seq
      (.region [⟨some 10, none, .bin .lss (.t 9) (.t 8)⟩] false [])
      (.keep [1, 3, 7, 8, 9, 10] (.seq
      (.cond (.t 10)
       (.skip)
       (.exit 0))
      (.keep [1, 3, 7, 8, 9] (.seq
       (.block 1 (.seq
        (.region [⟨some 11, none, .mov (.t 9)⟩,
         ⟨some 12, none, .iaddr 4 (.t 7) (.t 9)⟩,
         ⟨some 13, none, .load 4 true (.t 12)⟩,
         ⟨some 5, none, .alloc [.s [], .b false, .i .i64 0, .i .i64 0]⟩,
         ⟨some 4, none, .mov (.t 11)⟩,
         ⟨none, none, .store 4 (.t 5) (.t 13)⟩] false [])
        (.keep [1, 3, 4, 5, 7, 8, 9] (.seq
        (.seq
         (.region [⟨some 14, none, .faddr 2 (.t 5)⟩,
          ⟨some 15, none, .load 1 false (.t 14)⟩,
          ⟨some 16, none, .mov (.t 3)⟩,
          ⟨some 17, none, .bin .neq (.t 15) (.t 16)⟩,
          ⟨some 18, none, .mov (.t 17)⟩,
          ⟨some 19, (some (4, false)), .faddr 3 (.t 5)⟩,
          ⟨some 20, (some (4, false)), .load 1 false (.t 19)⟩,
          ⟨some 21, (some (4, false)), .bin .lss (.t 20) (.c (.d (.i .i64 1)))⟩,
          ⟨some 22, none, .pick (.t 18) (.c (.d (.b true))) (.t 21)⟩,
          ⟨some 23, none, .mov (.t 22)⟩,
          ⟨some 24, (some (9, false)), .faddr 3 (.t 5)⟩,
          ⟨some 25, (some (9, false)), .load 1 false (.t 24)⟩,
          ⟨some 26, (some (9, false)), .faddr 0 (.t 1)⟩,
          ⟨some 27, (some (9, false)), .load 1 false (.t 26)⟩,
          ⟨some 28, (some (9, false)), .len false (.t 27)⟩,
          ⟨some 29, (some (9, false)), .mov (.t 3)⟩,
          ⟨some 30, (some (9, false)), .bin .sub (.t 28) (.t 29)⟩,
          ⟨some 31, (some (9, false)), .bin .gtr (.t 25) (.t 30)⟩,
          ⟨some 32, none, .pick (.t 23) (.c (.d (.b true))) (.t 31)⟩] false [])
         (.keep [1, 3, 4, 5, 7, 8, 9, 32] (.cond (.t 32)
         (.keep [4] (.seq
          (.region [⟨some 33, none, .mov (.t 4)⟩,
           ⟨some 2, none, .mov (.t 33)⟩] false [])
          (.ret)))
         (.skip))))
        (.keep [1, 3, 5, 7, 8, 9] (.region [⟨some 34, none, .mov (.t 3)⟩,
         ⟨some 35, none, .faddr 3 (.t 5)⟩,
         ⟨some 36, none, .load 1 false (.t 35)⟩,
         ⟨some 37, none, .bin .add (.t 34) (.t 36)⟩,
         ⟨some 3, none, .mov (.t 37)⟩] false []))))))
       (.keep [1, 3, 7, 8, 9] (.region [⟨some 38, none, .bin .add (.t 9) (.c (.d (.i .i64 1)))⟩,
        ⟨some 9, none, .mov (.t 38)⟩] false []))))))
/-- spindle/object.cut -/
def F340_object_cut : SFn := ⟨1, true, true, [.tmp 2],
  .seq
   (.region [⟨some 1, none, .box (.t 0)⟩,
    ⟨some 2, none, .mov (.c (.d (.i .i64 0)))⟩] false [])
   (.keep [1] (.seq
   (.region [⟨some 3, none, .mov (.c (.d (.i .i64 0)))⟩] false [])
   (.keep [1, 3] (.seq
    (.seq
    (.region [⟨some 6, none, .faddr 1 (.t 1)⟩,
     ⟨some 7, none, .load 1 false (.t 6)⟩,
     ⟨some 8, none, .len false (.t 7)⟩,
     ⟨some 9, none, .mov (.c (.d (.i .i64 0)))⟩] false [])
    (.keep [1, 3, 7, 8, 9] (.block 0 (.loop [1, 3, 7, 8, 9] true F340_object_cut_b0))))
    (.keep [1, 3] (.seq
    (.seq
     (.region [⟨some 39, none, .mov (.t 3)⟩,
      ⟨some 40, none, .faddr 0 (.t 1)⟩,
      ⟨some 41, none, .load 1 false (.t 40)⟩,
      ⟨some 42, none, .len false (.t 41)⟩,
      ⟨some 43, none, .bin .lss (.t 39) (.t 42)⟩] false [])
     (.keep [1, 43] (.cond (.t 43)
     (.keep [1] (.seq
      (.region [⟨some 44, none, .faddr 1 (.t 1)⟩,
       ⟨some 45, none, .load 1 false (.t 44)⟩,
       ⟨some 46, none, .len false (.t 45)⟩,
       ⟨some 2, none, .mov (.t 46)⟩] false [])
      (.ret)))
     (.skip))))
    (.keep [] (.seq
     (.region [⟨some 2, none, .mov (.c (.d (.i .i64 (-1))))⟩] false [])
     (.ret)))))))))⟩

/-- spindle/object.table -/
def F341_object_table : SFn := ⟨1, true, true, [.tmp 2],
  .seq
   (.region [⟨some 1, none, .box (.t 0)⟩,
    ⟨some 2, none, .mov (.c (.d (.b false)))⟩] false [])
   (.keep [1] (.seq
   (.region [⟨some 4, none, .faddr 1 (.t 1)⟩,
    ⟨some 5, none, .load 1 false (.t 4)⟩,
    ⟨some 6, none, .bin .eql (.t 5) (.c (.d (.i .i64 2)))⟩,
    ⟨some 7, none, .mov (.t 6)⟩,
    ⟨some 8, (some (3, true)), .faddr 2 (.t 1)⟩,
    ⟨some 9, (some (3, true)), .load 1 false (.t 8)⟩,
    ⟨some 10, (some (3, true)), .bin .geq (.t 9) (.c (.d (.i .i64 1)))⟩,
    ⟨some 11, none, .pick (.t 7) (.t 10) (.c (.d (.b false)))⟩,
    ⟨some 12, none, .mov (.t 11)⟩,
    ⟨some 13, (some (8, true)), .faddr 2 (.t 1)⟩,
    ⟨some 14, (some (8, true)), .load 1 false (.t 13)⟩,
    ⟨some 15, (some (8, true)), .bin .leq (.t 14) (.c (.d (.i .i64 64)))⟩,
    ⟨some 16, none, .pick (.t 12) (.t 15) (.c (.d (.b false)))⟩,
    ⟨some 17, none, .mov (.t 16)⟩,
    ⟨some 18, (some (13, false)), .faddr 1 (.t 1)⟩,
    ⟨some 19, (some (13, false)), .load 1 false (.t 18)⟩,
    ⟨some 20, (some (13, false)), .bin .eql (.t 19) (.c (.d (.i .i64 1)))⟩,
    ⟨some 21, (some (13, false)), .mov (.t 20)⟩,
    ⟨some 22, (some (17, true)), .faddr 2 (.t 1)⟩,
    ⟨some 23, (some (17, true)), .load 1 false (.t 22)⟩,
    ⟨some 24, (some (17, true)), .bin .eql (.t 23) (.c (.d (.i .i64 4)))⟩,
    ⟨some 25, (some (13, false)), .pick (.t 21) (.t 24) (.c (.d (.b false)))⟩,
    ⟨some 26, none, .pick (.t 17) (.c (.d (.b true))) (.t 25)⟩,
    ⟨some 3, none, .mov (.t 26)⟩] false [])
   (.keep [1, 3] (.seq
    (.seq
    (.region [⟨some 27, none, .mov (.t 3)⟩,
     ⟨some 28, none, .un .not (.t 27)⟩,
     ⟨some 29, none, .mov (.t 28)⟩,
     ⟨some 30, (some (2, false)), .faddr 3 (.t 1)⟩,
     ⟨some 31, (some (2, false)), .load 1 false (.t 30)⟩,
     ⟨some 32, (some (2, false)), .bin .lss (.t 31) (.c (.d (.i .i64 1)))⟩,
     ⟨some 33, none, .pick (.t 29) (.c (.d (.b true))) (.t 32)⟩,
     ⟨some 34, none, .mov (.t 33)⟩,
     ⟨some 35, (some (7, false)), .faddr 3 (.t 1)⟩,
     ⟨some 36, (some (7, false)), .load 1 false (.t 35)⟩,
     ⟨some 37, (some (7, false)), .bin .gtr (.t 36) (.c (.d (.i .i64 4096)))⟩,
     ⟨some 38, none, .pick (.t 34) (.c (.d (.b true))) (.t 37)⟩,
     ⟨some 39, none, .mov (.t 38)⟩,
     ⟨some 40, (some (12, false)), .faddr 4 (.t 1)⟩,
     ⟨some 41, (some (12, false)), .load 1 false (.t 40)⟩,
     ⟨some 42, (some (12, false)), .bin .lss (.t 41) (.c (.d (.i .i64 1)))⟩,
     ⟨some 43, none, .pick (.t 39) (.c (.d (.b true))) (.t 42)⟩,
     ⟨some 44, none, .mov (.t 43)⟩,
     ⟨some 45, (some (17, false)), .faddr 4 (.t 1)⟩,
     ⟨some 46, (some (17, false)), .load 1 false (.t 45)⟩,
     ⟨some 47, (some (17, false)), .bin .gtr (.t 46) (.c (.d (.i .i64 65536)))⟩,
     ⟨some 48, none, .pick (.t 44) (.c (.d (.b true))) (.t 47)⟩] false [])
    (.keep [1, 48] (.cond (.t 48)
     (.keep [] (.seq
     (.region [⟨some 2, none, .mov (.c (.d (.b false)))⟩] false [])
     (.ret)))
     (.skip))))
    (.keep [1] (.seq
    (.region [⟨some 49, none, .faddr 4 (.t 1)⟩,
     ⟨some 50, none, .load 1 false (.t 49)⟩,
     ⟨some 51, none, .faddr 2 (.t 1)⟩,
     ⟨some 52, none, .load 1 false (.t 51)⟩,
     ⟨some 53, none, .faddr 3 (.t 1)⟩,
     ⟨some 54, none, .load 1 false (.t 53)⟩,
     ⟨some 55, none, .bin .add (.t 54) (.c (.d (.i .i64 7)))⟩,
     ⟨some 56, none, .bin .andNot (.t 55) (.c (.d (.i .i64 7)))⟩,
     ⟨some 57, none, .bin .add (.t 52) (.t 56)⟩,
     ⟨some 58, none, .bin .add (.t 57) (.c (.d (.i .i64 8)))⟩,
     ⟨some 59, none, .bin .mul (.t 50) (.t 58)⟩,
     ⟨some 60, none, .bin .leq (.t 59) (.c (.d (.i .i64 16777216)))⟩,
     ⟨some 2, none, .mov (.t 60)⟩] false [])
    (.ret)))))))⟩

/-- spindle/object.insn -/
def F342_object_insn : SFn := ⟨1, true, true, [.tmp 2],
  .seq
   (.region [⟨some 1, none, .box (.t 0)⟩,
    ⟨some 2, none, .mov (.c (.d (.b false)))⟩] false [])
   (.keep [1] (.seq
   (.seq
    (.region [⟨some 3, none, .load 5 true (.t 1)⟩,
     ⟨some 4, none, .call 27 [.t 3]⟩,
     ⟨some 5, none, .bin .neq (.t 4) (.c (.d (.i .i64 0)))⟩] false [])
    (.keep [1, 5] (.cond (.t 5)
    (.keep [] (.seq
     (.region [⟨some 2, none, .mov (.c (.d (.b false)))⟩] false [])
     (.ret)))
    (.skip))))
   (.keep [1] (.seq
    (.seq
    (.region [⟨some 6, none, .load 5 true (.t 1)⟩,
     ⟨some 7, none, .call 348 [.t 6]⟩] false [])
    (.keep [1, 7] (.block 0 (.seq
     (.region [⟨some 9, none, .bin .eql (.t 7) (.c (.d (.i .i64 2)))⟩,
      ⟨some 8, none, .mov (.t 9)⟩] false [])
     (.keep [1, 7, 8] (.cond (.t 8)
      (.keep [1] (.seq
      (.region [⟨some 10, none, .faddr 4 (.t 1)⟩,
       ⟨some 11, none, .load 1 false (.t 10)⟩,
       ⟨some 12, none, .bin .eql (.t 11) (.c (.d (.i .i64 (-1))))⟩,
       ⟨some 2, none, .mov (.t 12)⟩] false [])
      (.ret)))
      (.keep [1, 7] (.seq
      (.region [⟨some 14, none, .bin .eql (.t 7) (.c (.d (.i .i64 1)))⟩,
       ⟨some 13, none, .mov (.t 14)⟩] false [])
      (.keep [1, 13] (.cond (.t 13)
       (.keep [1] (.seq
       (.region [⟨some 15, none, .faddr 4 (.t 1)⟩,
        ⟨some 16, none, .load 1 false (.t 15)⟩,
        ⟨some 17, none, .bin .eql (.t 16) (.c (.d (.i .i64 0)))⟩,
        ⟨some 2, none, .mov (.t 17)⟩] false [])
       (.ret)))
       (.skip)))))))))))
    (.keep [] (.seq
    (.region [⟨some 2, none, .mov (.c (.d (.b true)))⟩] false [])
    (.ret)))))))⟩

def F343_object_relocs_b0 : SCode :=
  .seq
      (.region [⟨some 13, none, .bin .lss (.t 12) (.t 11)⟩] false [])
      (.keep [1, 3, 10, 11, 12, 13] (.seq
      (.cond (.t 13)
       (.skip)
       (.exit 0))
      (.keep [1, 3, 10, 11, 12] (.seq
       (.block 1 (.seq
        (.region [⟨some 14, none, .mov (.t 12)⟩,
         ⟨some 15, none, .iaddr 5 (.t 10) (.t 12)⟩,
         ⟨some 16, none, .load 5 true (.t 15)⟩,
         ⟨some 5, none, .alloc [.i .i64 0, .i .i64 0, .i .i64 0, .i .i64 0, .i .i64 0]⟩,
         ⟨some 4, none, .mov (.t 14)⟩,
         ⟨none, none, .store 5 (.t 5) (.t 16)⟩] false [])
        (.keep [1, 3, 4, 5, 10, 11, 12] (.seq
        (.region [⟨some 17, none, .load 5 true (.t 5)⟩,
         ⟨some 18, none, .call 348 [.t 17]⟩,
         ⟨some 6, none, .mov (.t 18)⟩] false [])
        (.keep [1, 3, 4, 6, 10, 11, 12] (.seq
         (.seq
         (.region [⟨some 19, none, .mov (.t 6)⟩,
          ⟨some 20, none, .bin .eql (.t 19) (.c (.d (.i .i64 0)))⟩] false [])
         (.keep [1, 3, 4, 6, 10, 11, 12, 20] (.cond (.t 20)
          (.exit 1)
          (.skip))))
         (.keep [1, 3, 4, 6, 10, 11, 12] (.seq
         (.seq
          (.region [⟨some 21, none, .mov (.t 3)⟩,
           ⟨some 22, none, .faddr 4 (.t 1)⟩,
           ⟨some 23, none, .load 1 false (.t 22)⟩,
           ⟨some 24, none, .len false (.t 23)⟩,
           ⟨some 25, none, .bin .eql (.t 21) (.t 24)⟩] false [])
          (.keep [1, 3, 4, 6, 10, 11, 12, 25] (.cond (.t 25)
          (.keep [3] (.seq
           (.region [⟨some 26, none, .mov (.t 3)⟩,
            ⟨some 2, none, .mov (.t 26)⟩] false [])
           (.ret)))
          (.skip))))
         (.keep [1, 3, 4, 6, 10, 11, 12] (.seq
          (.region [⟨some 27, none, .faddr 2 (.t 1)⟩,
           ⟨some 28, none, .load 1 false (.t 27)⟩,
           ⟨some 29, none, .len false (.t 28)⟩,
           ⟨some 7, none, .mov (.t 29)⟩] false [])
          (.keep [1, 3, 4, 6, 7, 10, 11, 12] (.seq
          (.seq
           (.region [⟨some 30, none, .mov (.t 6)⟩,
            ⟨some 31, none, .bin .eql (.t 30) (.c (.d (.i .i64 2)))⟩] false [])
           (.keep [1, 3, 4, 6, 7, 10, 11, 12, 31] (.cond (.t 31)
           (.keep [1, 3, 4, 6, 10, 11, 12] (.region [⟨some 32, none, .faddr 1 (.t 1)⟩,
            ⟨some 33, none, .load 1 false (.t 32)⟩,
            ⟨some 34, none, .len false (.t 33)⟩,
            ⟨some 35, none, .faddr 3 (.t 1)⟩,
            ⟨some 36, none, .load 1 false (.t 35)⟩,
            ⟨some 37, none, .len false (.t 36)⟩,
            ⟨some 38, none, .bin .add (.t 34) (.t 37)⟩,
            ⟨some 7, none, .mov (.t 38)⟩] false []))
           (.skip))))
          (.keep [1, 3, 4, 6, 7, 10, 11, 12] (.seq
           (.seq
           (.region [⟨some 39, none, .faddr 4 (.t 1)⟩,
            ⟨some 40, none, .load 1 false (.t 39)⟩,
            ⟨some 41, none, .mov (.t 3)⟩,
            ⟨some 42, none, .iaddr 3 (.t 40) (.t 41)⟩,
            ⟨some 43, none, .load 3 true (.t 42)⟩,
            ⟨some 8, none, .alloc [.i .i64 0, .i .i64 0, .i .i64 0]⟩,
            ⟨none, none, .store 3 (.t 8) (.t 43)⟩] false [])
           (.keep [1, 3, 4, 6, 7, 8, 10, 11, 12] (.seq
            (.region [⟨some 44, none, .faddr 0 (.t 8)⟩,
             ⟨some 45, none, .load 1 false (.t 44)⟩,
             ⟨some 46, none, .mov (.t 4)⟩,
             ⟨some 47, none, .bin .neq (.t 45) (.t 46)⟩,
             ⟨some 48, none, .mov (.t 47)⟩,
             ⟨some 49, (some (4, false)), .faddr 1 (.t 8)⟩,
             ⟨some 50, (some (4, false)), .load 1 false (.t 49)⟩,
             ⟨some 51, (some (4, false)), .mov (.t 6)⟩,
             ⟨some 52, (some (4, false)), .bin .neq (.t 50) (.t 51)⟩,
             ⟨some 53, none, .pick (.t 48) (.c (.d (.b true))) (.t 52)⟩,
             ⟨some 54, none, .mov (.t 53)⟩,
             ⟨some 55, (some (10, false)), .faddr 2 (.t 8)⟩,
             ⟨some 56, (some (10, false)), .load 1 false (.t 55)⟩,
             ⟨some 57, (some (10, false)), .bin .lss (.t 56) (.c (.d (.i .i64 0)))⟩,
             ⟨some 58, none, .pick (.t 54) (.c (.d (.b true))) (.t 57)⟩,
             ⟨some 59, none, .mov (.t 58)⟩,
             ⟨some 60, (some (15, false)), .faddr 2 (.t 8)⟩,
             ⟨some 61, (some (15, false)), .load 1 false (.t 60)⟩,
             ⟨some 62, (some (15, false)), .mov (.t 7)⟩,
             ⟨some 63, (some (15, false)), .bin .geq (.t 61) (.t 62)⟩,
             ⟨some 64, none, .pick (.t 59) (.c (.d (.b true))) (.t 63)⟩] false [])
            (.keep [1, 3, 10, 11, 12, 64] (.cond (.t 64)
            (.keep [3] (.seq
             (.region [⟨some 65, none, .mov (.t 3)⟩,
              ⟨some 2, none, .mov (.t 65)⟩] false [])
             (.ret)))
            (.skip))))))
           (.keep [1, 3, 10, 11, 12] (.region [⟨some 66, none, .mov (.t 3)⟩,
            ⟨some 67, none, .bin .add (.t 66) (.c (.d (.i .i64 1)))⟩,
            ⟨some 3, none, .mov (.t 67)⟩] false []))))))))))))))))
       (.keep [1, 3, 10, 11, 12] (.region [⟨some 68, none, .bin .add (.t 12) (.c (.d (.i .i64 1)))⟩,
        ⟨some 12, none, .mov (.t 68)⟩] false []))))))
/-- spindle/object.relocs -/
def F343_object_relocs : SFn := ⟨1, true, true, [.tmp 2],
  .seq
   (.region [⟨some 1, none, .box (.t 0)⟩,
    ⟨some 2, none, .mov (.c (.d (.i .i64 0)))⟩] false [])
   (.keep [1] (.seq
   (.region [⟨some 3, none, .mov (.c (.d (.i .i64 0)))⟩] false [])
   (.keep [1, 3] (.seq
    (.seq
    (.region [⟨some 9, none, .faddr 0 (.t 1)⟩,
     ⟨some 10, none, .load 1 false (.t 9)⟩,
     ⟨some 11, none, .len false (.t 10)⟩,
     ⟨some 12, none, .mov (.c (.d (.i .i64 0)))⟩] false [])
    (.keep [1, 3, 10, 11, 12] (.block 0 (.loop [1, 3, 10, 11, 12] true F343_object_relocs_b0))))
    (.keep [1, 3] (.seq
    (.seq
     (.region [⟨some 69, none, .mov (.t 3)⟩,
      ⟨some 70, none, .faddr 4 (.t 1)⟩,
      ⟨some 71, none, .load 1 false (.t 70)⟩,
      ⟨some 72, none, .len false (.t 71)⟩,
      ⟨some 73, none, .bin .lss (.t 69) (.t 72)⟩] false [])
     (.keep [3, 73] (.cond (.t 73)
     (.keep [3] (.seq
      (.region [⟨some 74, none, .mov (.t 3)⟩,
       ⟨some 2, none, .mov (.t 74)⟩] false [])
      (.ret)))
     (.skip))))
    (.keep [] (.seq
     (.region [⟨some 2, none, .mov (.c (.d (.i .i64 (-1))))⟩] false [])
     (.ret)))))))))⟩

/-- spindle/object.site -/
def F348_object_site : SFn := ⟨1, true, true, [.tmp 2],
  .seq
   (.region [⟨some 1, none, .box (.t 0)⟩,
    ⟨some 2, none, .mov (.c (.d (.i .i64 0)))⟩] false [])
   (.keep [1] (.seq
   (.block 0 (.seq
    (.region [⟨some 4, none, .faddr 0 (.t 1)⟩,
     ⟨some 5, none, .load 1 false (.t 4)⟩,
     ⟨some 6, none, .bin .eql (.t 5) (.c (.d (.i .i64 133)))⟩,
     ⟨some 7, none, .mov (.t 6)⟩,
     ⟨some 8, (some (3, true)), .faddr 2 (.t 1)⟩,
     ⟨some 9, (some (3, true)), .load 1 false (.t 8)⟩,
     ⟨some 10, (some (3, true)), .bin .eql (.t 9) (.c (.d (.i .i64 1)))⟩,
     ⟨some 11, none, .pick (.t 7) (.t 10) (.c (.d (.b false)))⟩,
     ⟨some 3, none, .mov (.t 11)⟩] false [])
    (.keep [1, 3] (.cond (.t 3)
     (.keep [] (.seq
     (.region [⟨some 2, none, .mov (.c (.d (.i .i64 2)))⟩] false [])
     (.ret)))
     (.keep [1] (.seq
     (.region [⟨some 13, none, .faddr 0 (.t 1)⟩,
      ⟨some 14, none, .load 1 false (.t 13)⟩,
      ⟨some 15, none, .bin .eql (.t 14) (.c (.d (.i .i64 24)))⟩,
      ⟨some 16, none, .mov (.t 15)⟩,
      ⟨some 17, (some (3, true)), .faddr 2 (.t 1)⟩,
      ⟨some 18, (some (3, true)), .load 1 false (.t 17)⟩,
      ⟨some 19, (some (3, true)), .bin .eql (.t 18) (.c (.d (.i .i64 1)))⟩,
      ⟨some 20, none, .pick (.t 16) (.t 19) (.c (.d (.b false)))⟩,
      ⟨some 12, none, .mov (.t 20)⟩] false [])
     (.keep [12] (.cond (.t 12)
      (.keep [] (.seq
      (.region [⟨some 2, none, .mov (.c (.d (.i .i64 1)))⟩] false [])
      (.ret)))
      (.skip)))))))))
   (.keep [] (.seq
    (.region [⟨some 2, none, .mov (.c (.d (.i .i64 0)))⟩] false [])
    (.ret)))))⟩
end Go.Sh
