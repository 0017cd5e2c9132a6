/- Shadow functions of code, written by tr.py. -/
import Derived.Test.YtidigkielipghaaDoorShBa
namespace Go.Sh
def F0_code_Slots_b0 : SCode :=
  .seq
      (.region [⟨some 11, none, .bin .lss (.t 10) (.t 9)⟩] false [])
      (.keep [3, 8, 9, 10, 11] (.seq
      (.cond (.t 11)
       (.skip)
       (.exit 0))
      (.keep [3, 8, 9, 10] (.seq
       (.block 1 (.seq
        (.region [⟨some 12, none, .iaddr 5 (.t 8) (.t 10)⟩,
         ⟨some 13, none, .load 5 true (.t 12)⟩,
         ⟨some 5, none, .alloc [.i .i64 0, .i .i64 0, .i .i64 0, .i .i64 0, .i .i64 0]⟩,
         ⟨none, none, .store 5 (.t 5) (.t 13)⟩] false [])
        (.keep [3, 5, 8, 9, 10] (.seq
        (.region [⟨some 14, none, .faddr 0 (.t 5)⟩,
         ⟨some 15, none, .load 1 false (.t 14)⟩,
         ⟨some 16, none, .bin .eql (.t 15) (.c (.d (.i .i64 24)))⟩] false [])
        (.keep [3, 8, 9, 10, 16] (.cond (.t 16)
         (.keep [3, 8, 9, 10] (.region [⟨some 17, none, .mov (.t 3)⟩,
          ⟨some 18, none, .bin .add (.t 17) (.c (.d (.i .i64 1)))⟩,
          ⟨some 3, none, .mov (.t 18)⟩] false []))
         (.skip)))))))
       (.keep [3, 8, 9, 10] (.region [⟨some 19, none, .bin .add (.t 10) (.c (.d (.i .i64 1)))⟩,
        ⟨some 10, none, .mov (.t 19)⟩] false []))))))
/-- spindle/code.Slots -/
def F0_code_Slots : SFn := ⟨1, true, true, [.tmp 2],
  .seq
   (.region [⟨some 2, none, .mov (.c (.d (.i .i64 0)))⟩] false [])
   (.keep [0] (.seq
   (.region [⟨some 6, none, .mov (.t 0)⟩,
    ⟨some 7, none, .len false (.t 6)⟩,
    ⟨some 3, none, .mov (.t 7)⟩] false [])
   (.keep [0, 3] (.seq
    (.seq
    (.region [⟨some 8, none, .mov (.t 0)⟩,
     ⟨some 9, none, .len false (.t 8)⟩,
     ⟨some 10, none, .mov (.c (.d (.i .i64 0)))⟩] false [])
    (.keep [3, 8, 9, 10] (.block 0 (.loop [3, 8, 9, 10] true F0_code_Slots_b0))))
    (.keep [3] (.seq
    (.region [⟨some 20, none, .mov (.t 3)⟩,
     ⟨some 2, none, .mov (.t 20)⟩] false [])
    (.ret)))))))⟩

def F70_code_Encode_b0 : SCode :=
  .seq
     (.region [⟨some 14, none, .bin .lss (.t 13) (.t 12)⟩] false [])
     (.keep [0, 11, 12, 13, 14] (.seq
      (.cond (.t 14)
      (.skip)
      (.exit 0))
      (.keep [0, 11, 12, 13] (.seq
      (.block 1 (.seq
       (.region [⟨some 15, none, .mov (.t 13)⟩,
        ⟨some 16, none, .iaddr 5 (.t 11) (.t 13)⟩,
        ⟨some 17, none, .load 5 true (.t 16)⟩,
        ⟨some 6, none, .alloc [.i .i64 0, .i .i64 0, .i .i64 0, .i .i64 0, .i .i64 0]⟩,
        ⟨some 5, none, .mov (.t 15)⟩,
        ⟨none, none, .store 5 (.t 6) (.t 17)⟩] false [])
       (.keep [0, 5, 6, 11, 12, 13] (.seq
        (.region [⟨some 18, none, .load 5 true (.t 6)⟩,
         ⟨some 19, none, .call 27 [.t 18]⟩,
         ⟨some 7, none, .mov (.t 19)⟩] false [])
        (.keep [0, 5, 7, 11, 12, 13] (.seq
        (.region [⟨some 20, none, .mov (.t 7)⟩,
         ⟨some 21, none, .bin .neq (.t 20) (.c (.d (.i .i64 0)))⟩] false [])
        (.keep [0, 5, 7, 11, 12, 13, 21] (.cond (.t 21)
         (.keep [5, 7] (.seq
         (.region [⟨some 22, none, .mov (.t 5)⟩,
          ⟨some 23, none, .mov (.t 7)⟩,
          ⟨some 2, none, .mov (.c (.d (.sl 0 false [])))⟩,
          ⟨some 3, none, .mov (.t 22)⟩,
          ⟨some 4, none, .mov (.t 23)⟩] false [])
         (.ret)))
         (.skip)))))))))
      (.keep [0, 11, 12, 13] (.region [⟨some 24, none, .bin .add (.t 13) (.c (.d (.i .i64 1)))⟩,
       ⟨some 13, none, .mov (.t 24)⟩] false []))))))
def F70_code_Encode_b1 : SCode :=
  .seq
      (.region [⟨some 32, none, .bin .lss (.t 31) (.t 30)⟩] false [])
      (.keep [8, 29, 30, 31, 32] (.seq
       (.cond (.t 32)
       (.skip)
       (.exit 2))
       (.keep [8, 29, 30, 31] (.seq
       (.block 3 (.seq
        (.region [⟨some 33, none, .iaddr 5 (.t 29) (.t 31)⟩,
         ⟨some 34, none, .load 5 true (.t 33)⟩,
         ⟨some 10, none, .alloc [.i .i64 0, .i .i64 0, .i .i64 0, .i .i64 0, .i .i64 0]⟩,
         ⟨none, none, .store 5 (.t 10) (.t 34)⟩] false [])
        (.keep [8, 10, 29, 30, 31] (.region [⟨some 35, none, .mov (.t 8)⟩,
         ⟨some 36, none, .load 5 true (.t 10)⟩,
         ⟨some 37, none, .call 76 [.t 36]⟩,
         ⟨some 38, none, .app 1 1 (.t 35) (.t 37)⟩,
         ⟨some 8, none, .mov (.t 38)⟩] false []))))
       (.keep [8, 29, 30, 31] (.region [⟨some 39, none, .bin .add (.t 31) (.c (.d (.i .i64 1)))⟩,
        ⟨some 31, none, .mov (.t 39)⟩] false []))))))
/-- spindle/code.Encode -/
def F70_code_Encode : SFn := ⟨1, true, true, [.tmp 2, .tmp 3, .tmp 4],
  .seq
   (.region [⟨some 2, none, .mov (.c (.d (.sl 0 false [])))⟩,
    ⟨some 3, none, .mov (.c (.d (.i .i64 0)))⟩,
    ⟨some 4, none, .mov (.c (.d (.i .i64 0)))⟩] false [])
   (.keep [0] (.seq
   (.seq
    (.region [⟨some 11, none, .mov (.t 0)⟩,
     ⟨some 12, none, .len false (.t 11)⟩,
     ⟨some 13, none, .mov (.c (.d (.i .i64 0)))⟩] false [])
    (.keep [0, 11, 12, 13] (.block 0 (.loop [0, 11, 12, 13] true F70_code_Encode_b0))))
   (.keep [0] (.seq
    (.region [⟨some 25, none, .mov (.t 0)⟩,
     ⟨some 26, none, .call 0 [.t 25]⟩,
     ⟨some 27, none, .bin .mul (.c (.d (.i .i64 8))) (.t 26)⟩,
     ⟨some 28, none, .mkO 1 1 [.i .u8 0] (.c (.d (.i .i64 0))) (.t 27)⟩,
     ⟨some 8, none, .mov (.t 28)⟩] false [])
    (.keep [0, 8] (.seq
    (.seq
     (.region [⟨some 29, none, .mov (.t 0)⟩,
      ⟨some 30, none, .len false (.t 29)⟩,
      ⟨some 31, none, .mov (.c (.d (.i .i64 0)))⟩] false [])
     (.keep [8, 29, 30, 31] (.block 2 (.loop [8, 29, 30, 31] true F70_code_Encode_b1))))
    (.keep [8] (.seq
     (.region [⟨some 40, none, .mov (.t 8)⟩,
      ⟨some 2, none, .mov (.t 40)⟩,
      ⟨some 3, none, .mov (.c (.d (.i .i64 0)))⟩,
      ⟨some 4, none, .mov (.c (.d (.i .i64 0)))⟩] false [])
     (.ret)))))))))⟩

def F72_code_Decode_b0 : SCode :=
  .seq
      (.seq
      (.region [⟨some 10, none, .mov (.t 6)⟩,
       ⟨some 11, none, .bin .mul (.c (.d (.i .i64 8))) (.t 10)⟩,
       ⟨some 12, none, .mov (.t 0)⟩,
       ⟨some 13, none, .len false (.t 12)⟩,
       ⟨some 14, none, .bin .lss (.t 11) (.t 13)⟩] false [])
      (.keep [0, 5, 6, 14] (.cond (.t 14)
       (.skip)
       (.exit 0))))
      (.keep [0, 5, 6] (.block 1 (.seq
       (.region [⟨some 16, none, .mov (.t 0)⟩,
        ⟨some 17, none, .mov (.t 6)⟩,
        ⟨some 18, none, .bin .mul (.c (.d (.i .i64 8))) (.t 17)⟩,
        ⟨some 19, none, .slc 1 (.t 16) (some (.t 18)) none none⟩,
        ⟨some 20, none, .call 77 [.t 19]⟩,
        ⟨some 15, none, .mov (.t 20)⟩,
        ⟨some 21, none, .extract 0 (.t 15)⟩,
        ⟨some 22, none, .extract 1 (.t 15)⟩,
        ⟨some 23, none, .extract 2 (.t 15)⟩,
        ⟨some 7, none, .alloc [.i .i64 0, .i .i64 0, .i .i64 0, .i .i64 0, .i .i64 0]⟩,
        ⟨none, none, .store 5 (.t 7) (.t 21)⟩,
        ⟨some 8, none, .mov (.t 22)⟩,
        ⟨some 9, none, .mov (.t 23)⟩] false [])
       (.keep [0, 5, 6, 7, 8, 9] (.seq
       (.seq
        (.region [⟨some 24, none, .mov (.t 9)⟩,
         ⟨some 25, none, .bin .neq (.t 24) (.c (.d (.i .i64 0)))⟩] false [])
        (.keep [0, 5, 6, 7, 8, 9, 25] (.cond (.t 25)
        (.keep [6, 9] (.seq
         (.region [⟨some 26, none, .mov (.t 6)⟩,
          ⟨some 27, none, .mov (.t 9)⟩,
          ⟨some 2, none, .mov (.c (.d (.sl 0 false [])))⟩,
          ⟨some 3, none, .mov (.t 26)⟩,
          ⟨some 4, none, .mov (.t 27)⟩] false [])
         (.ret)))
        (.skip))))
       (.keep [0, 5, 6, 7, 8] (.seq
        (.region [⟨some 28, none, .mov (.t 5)⟩,
         ⟨some 29, none, .load 5 true (.t 7)⟩,
         ⟨some 30, none, .lits 1 [.i .i64 0, .i .i64 0, .i .i64 0, .i .i64 0, .i .i64 0] [(0, 5, .t 29)]⟩,
         ⟨some 31, none, .app 5 40 (.t 28) (.t 30)⟩,
         ⟨some 5, none, .mov (.t 31)⟩] false [])
        (.keep [0, 5, 6, 8] (.region [⟨some 32, none, .mov (.t 6)⟩,
         ⟨some 33, none, .mov (.t 8)⟩,
         ⟨some 34, none, .bin .add (.t 32) (.t 33)⟩,
         ⟨some 6, none, .mov (.t 34)⟩] false [])))))))))
/-- spindle/code.Decode -/
def F72_code_Decode : SFn := ⟨1, true, true, [.tmp 2, .tmp 3, .tmp 4],
  .seq
   (.region [⟨some 2, none, .mov (.c (.d (.sl 0 false [])))⟩,
    ⟨some 3, none, .mov (.c (.d (.i .i64 0)))⟩,
    ⟨some 4, none, .mov (.c (.d (.i .i64 0)))⟩] false [])
   (.keep [0] (.seq
   (.region [⟨some 5, none, .tok 5 (.c (.d (.sl 0 false [])))⟩] false [])
   (.keep [0, 5] (.seq
    (.seq
    (.region [⟨some 6, none, .mov (.c (.d (.i .i64 0)))⟩] false [])
    (.keep [0, 5, 6] (.block 0 (.loop [0, 5, 6] false F72_code_Decode_b0))))
    (.keep [5] (.seq
    (.region [⟨some 35, none, .mov (.t 5)⟩,
     ⟨some 2, none, .mov (.t 35)⟩,
     ⟨some 3, none, .mov (.c (.d (.i .i64 0)))⟩,
     ⟨some 4, none, .mov (.c (.d (.i .i64 0)))⟩] false [])
    (.ret)))))))⟩

/-- spindle/code.laid -/
def F76_code_laid : SFn := ⟨1, true, true, [.tmp 2],
  .seq
   (.region [⟨some 1, none, .box (.t 0)⟩,
    ⟨some 2, none, .mov (.c (.d (.sl 0 false [])))⟩] false [])
   (.keep [1] (.seq
   (.region [⟨some 3, none, .alloc [.i .u8 0, .i .u8 0, .i .u8 0, .i .u8 0, .i .u8 0, .i .u8 0, .i .u8 0, .i .u8 0, .i .u8 0, .i .u8 0, .i .u8 0, .i .u8 0, .i .u8 0, .i .u8 0, .i .u8 0, .i .u8 0]⟩] false [])
   (.keep [1, 3] (.seq
    (.region [⟨some 4, none, .slcA 16 1 (.t 3) (some (.c (.d (.i .i64 0)))) none none⟩,
     ⟨some 5, none, .faddr 0 (.t 1)⟩,
     ⟨some 6, none, .load 1 false (.t 5)⟩,
     ⟨some 7, none, .conv .u64 (.t 6)⟩,
     ⟨some 8, none, .call 78 [.t 4, .t 7, .c (.d (.i .i64 1))]⟩] true [0, 0, 2, 6, 15])
    (.keep [1, 3] (.seq
    (.region [⟨some 9, none, .slcA 16 1 (.t 3) (some (.c (.d (.i .i64 1)))) none none⟩,
     ⟨some 10, none, .faddr 1 (.t 1)⟩,
     ⟨some 11, none, .load 1 false (.t 10)⟩,
     ⟨some 12, none, .faddr 2 (.t 1)⟩,
     ⟨some 13, none, .load 1 false (.t 12)⟩,
     ⟨some 14, none, .bin .shl (.t 13) (.c (.d (.i .u64 4)))⟩,
     ⟨some 15, none, .bin .or (.t 11) (.t 14)⟩,
     ⟨some 16, none, .conv .u64 (.t 15)⟩,
     ⟨some 17, none, .call 78 [.t 9, .t 16, .c (.d (.i .i64 1))]⟩] true [0, 0, 2, 0, 8, 24, 62, 126, 255])
    (.keep [1, 3] (.seq
     (.region [⟨some 18, none, .slcA 16 1 (.t 3) (some (.c (.d (.i .i64 2)))) none none⟩,
      ⟨some 19, none, .faddr 3 (.t 1)⟩,
      ⟨some 20, none, .load 1 false (.t 19)⟩,
      ⟨some 21, none, .conv .u64 (.t 20)⟩,
      ⟨some 22, none, .call 78 [.t 18, .t 21, .c (.d (.i .i64 2))]⟩] true [0, 0, 2, 6, 15])
     (.keep [1, 3] (.seq
     (.region [⟨some 23, none, .slcA 16 1 (.t 3) (some (.c (.d (.i .i64 4)))) none none⟩,
      ⟨some 24, none, .faddr 4 (.t 1)⟩,
      ⟨some 25, none, .load 1 false (.t 24)⟩,
      ⟨some 26, none, .conv .u64 (.t 25)⟩,
      ⟨some 27, none, .call 78 [.t 23, .t 26, .c (.d (.i .i64 4))]⟩] true [0, 0, 2, 6, 15])
     (.keep [1, 3] (.seq
      (.seq
      (.region [⟨some 28, none, .faddr 0 (.t 1)⟩,
       ⟨some 29, none, .load 1 false (.t 28)⟩,
       ⟨some 30, none, .bin .neq (.t 29) (.c (.d (.i .i64 24)))⟩] false [])
      (.keep [1, 3, 30] (.cond (.t 30)
       (.keep [3] (.seq
       (.region [⟨some 31, none, .slcA 16 1 (.t 3) none (some (.c (.d (.i .i64 8)))) none⟩,
        ⟨some 2, none, .mov (.t 31)⟩] false [])
       (.ret)))
       (.skip))))
      (.keep [1, 3] (.seq
      (.region [⟨some 32, none, .slcA 16 1 (.t 3) (some (.c (.d (.i .i64 12)))) none none⟩,
       ⟨some 33, none, .faddr 4 (.t 1)⟩,
       ⟨some 34, none, .load 1 false (.t 33)⟩,
       ⟨some 35, none, .conv .u64 (.t 34)⟩,
       ⟨some 36, none, .bin .shr (.t 35) (.c (.d (.i .u64 32)))⟩,
       ⟨some 37, none, .call 78 [.t 32, .t 36, .c (.d (.i .i64 4))]⟩] true [0, 0, 2, 6, 14, 31])
      (.keep [3] (.seq
       (.region [⟨some 38, none, .slcA 16 1 (.t 3) none none none⟩,
        ⟨some 2, none, .mov (.t 38)⟩] false [])
       (.ret)))))))))))))))))⟩

/-- spindle/code.first -/
def F77_code_first : SFn := ⟨1, true, true, [.cell 2 5 true, .tmp 3, .tmp 4],
  .seq
   (.region [⟨some 2, none, .alloc [.i .i64 0, .i .i64 0, .i .i64 0, .i .i64 0, .i .i64 0]⟩,
    ⟨some 3, none, .mov (.c (.d (.i .i64 0)))⟩,
    ⟨some 4, none, .mov (.c (.d (.i .i64 0)))⟩] false [])
   (.keep [0, 2] (.seq
   (.seq
    (.region [⟨some 8, none, .mov (.t 0)⟩,
     ⟨some 9, none, .len false (.t 8)⟩,
     ⟨some 10, none, .bin .lss (.t 9) (.c (.d (.i .i64 8)))⟩,
     ⟨some 11, none, .mov (.t 10)⟩,
     ⟨some 12, (some (3, false)), .mov (.t 0)⟩,
     ⟨some 13, (some (3, false)), .iaddr 1 (.t 12) (.c (.d (.i .i64 0)))⟩,
     ⟨some 14, (some (3, false)), .load 1 false (.t 13)⟩,
     ⟨some 15, (some (3, false)), .bin .eql (.t 14) (.c (.d (.i .u8 24)))⟩,
     ⟨some 16, (some (3, false)), .mov (.t 15)⟩,
     ⟨some 17, (some (8, true)), .mov (.t 0)⟩,
     ⟨some 18, (some (8, true)), .len false (.t 17)⟩,
     ⟨some 19, (some (8, true)), .bin .lss (.t 18) (.c (.d (.i .i64 16)))⟩,
     ⟨some 20, (some (3, false)), .pick (.t 16) (.t 19) (.c (.d (.b false)))⟩,
     ⟨some 21, none, .pick (.t 11) (.c (.d (.b true))) (.t 20)⟩] false [])
    (.keep [0, 2, 21] (.cond (.t 21)
    (.keep [2] (.seq
     (.region [⟨some 22, none, .build [.i .i64 0, .i .i64 0, .i .i64 0, .i .i64 0, .i .i64 0] []⟩,
      ⟨none, none, .store 5 (.t 2) (.t 22)⟩,
      ⟨some 3, none, .mov (.c (.d (.i .i64 0)))⟩,
      ⟨some 4, none, .mov (.c (.d (.i .i64 30)))⟩] false [])
     (.ret)))
    (.skip))))
   (.keep [0, 2] (.seq
    (.region [⟨some 23, none, .mov (.t 0)⟩,
     ⟨some 24, none, .iaddr 1 (.t 23) (.c (.d (.i .i64 0)))⟩,
     ⟨some 25, none, .load 1 false (.t 24)⟩,
     ⟨some 26, none, .conv .i64 (.t 25)⟩,
     ⟨some 27, none, .mov (.t 0)⟩,
     ⟨some 28, none, .iaddr 1 (.t 27) (.c (.d (.i .i64 1)))⟩,
     ⟨some 29, none, .load 1 false (.t 28)⟩,
     ⟨some 30, none, .bin .and (.t 29) (.c (.d (.i .u8 15)))⟩,
     ⟨some 31, none, .conv .i64 (.t 30)⟩,
     ⟨some 32, none, .mov (.t 0)⟩,
     ⟨some 33, none, .iaddr 1 (.t 32) (.c (.d (.i .i64 1)))⟩,
     ⟨some 34, none, .load 1 false (.t 33)⟩,
     ⟨some 35, none, .bin .shr (.t 34) (.c (.d (.i .u64 4)))⟩,
     ⟨some 36, none, .conv .i64 (.t 35)⟩,
     ⟨some 37, none, .mov (.t 0)⟩,
     ⟨some 38, none, .slc 1 (.t 37) (some (.c (.d (.i .i64 2)))) none none⟩,
     ⟨some 39, none, .call 79 [.t 38, .c (.d (.i .i64 2))]⟩,
     ⟨some 40, none, .conv .i16 (.t 39)⟩,
     ⟨some 41, none, .conv .i64 (.t 40)⟩,
     ⟨some 42, none, .mov (.t 0)⟩,
     ⟨some 43, none, .slc 1 (.t 42) (some (.c (.d (.i .i64 4)))) none none⟩,
     ⟨some 44, none, .call 79 [.t 43, .c (.d (.i .i64 4))]⟩,
     ⟨some 45, none, .conv .i32 (.t 44)⟩,
     ⟨some 46, none, .conv .i64 (.t 45)⟩,
     ⟨some 47, none, .build [.i .i64 0, .i .i64 0, .i .i64 0, .i .i64 0, .i .i64 0] [(0, 1, .t 26), (1, 1, .t 31), (2, 1, .t 36), (3, 1, .t 41), (4, 1, .t 46)]⟩,
     ⟨some 5, none, .alloc [.i .i64 0, .i .i64 0, .i .i64 0, .i .i64 0, .i .i64 0]⟩,
     ⟨none, none, .store 5 (.t 5) (.t 47)⟩] true [0, 1, 3, 7, 0, 16, 48, 112, 240, 0, 512, 1536, 3584, 7680, 0, 16384, 49152, 114688, 245760, 0, 524288, 1687552, 3784704, 7979008, 16777215, 0, 67108863])
    (.keep [0, 2, 5] (.seq
    (.region [⟨some 6, none, .mov (.c (.d (.i .i64 1)))⟩] false [])
    (.keep [0, 2, 5, 6] (.seq
     (.seq
     (.region [⟨some 48, none, .faddr 0 (.t 5)⟩,
      ⟨some 49, none, .load 1 false (.t 48)⟩,
      ⟨some 50, none, .bin .eql (.t 49) (.c (.d (.i .i64 24)))⟩] false [])
     (.keep [0, 2, 5, 6, 50] (.cond (.t 50)
      (.keep [0, 2, 5] (.seq
      (.region [⟨some 51, none, .mov (.t 0)⟩,
       ⟨some 52, none, .slc 1 (.t 51) (some (.c (.d (.i .i64 8)))) (some (.c (.d (.i .i64 16)))) none⟩,
       ⟨some 7, none, .mov (.t 52)⟩] false [])
      (.keep [0, 2, 5, 7] (.seq
       (.seq
       (.region [⟨some 53, none, .mov (.t 7)⟩,
        ⟨some 54, none, .call 79 [.t 53, .c (.d (.i .i64 4))]⟩,
        ⟨some 55, none, .bin .neq (.t 54) (.c (.d (.i .u64 0)))⟩] false [])
       (.keep [0, 2, 5, 7, 55] (.cond (.t 55)
        (.keep [2] (.seq
        (.region [⟨some 56, none, .build [.i .i64 0, .i .i64 0, .i .i64 0, .i .i64 0, .i .i64 0] []⟩,
         ⟨none, none, .store 5 (.t 2) (.t 56)⟩,
         ⟨some 3, none, .mov (.c (.d (.i .i64 0)))⟩,
         ⟨some 4, none, .mov (.c (.d (.i .i64 31)))⟩] false [])
        (.ret)))
        (.skip))))
       (.keep [0, 2, 5, 7] (.seq
       (.region [⟨some 57, none, .mov (.t 0)⟩,
        ⟨some 58, none, .slc 1 (.t 57) (some (.c (.d (.i .i64 4)))) none none⟩,
        ⟨some 59, none, .call 79 [.t 58, .c (.d (.i .i64 4))]⟩,
        ⟨some 60, none, .mov (.t 7)⟩,
        ⟨some 61, none, .slc 1 (.t 60) (some (.c (.d (.i .i64 4)))) none none⟩,
        ⟨some 62, none, .call 79 [.t 61, .c (.d (.i .i64 4))]⟩,
        ⟨some 63, none, .bin .shl (.t 62) (.c (.d (.i .u64 32)))⟩,
        ⟨some 64, none, .bin .or (.t 59) (.t 63)⟩,
        ⟨some 65, none, .conv .i64 (.t 64)⟩,
        ⟨some 66, none, .faddr 4 (.t 5)⟩,
        ⟨none, none, .store 1 (.t 66) (.t 65)⟩] true [0, 1, 3, 0, 8, 31, 63, 127, 255, 511, 1023])
       (.keep [2, 5] (.region [⟨some 6, none, .mov (.c (.d (.i .i64 2)))⟩] false []))))))))
      (.skip))))
     (.keep [2, 5, 6] (.seq
     (.seq
      (.region [⟨some 67, none, .load 5 true (.t 5)⟩,
       ⟨some 68, none, .call 27 [.t 67]⟩,
       ⟨some 69, none, .bin .neq (.t 68) (.c (.d (.i .i64 0)))⟩] false [])
      (.keep [2, 5, 6, 69] (.cond (.t 69)
      (.keep [2] (.seq
       (.region [⟨some 70, none, .build [.i .i64 0, .i .i64 0, .i .i64 0, .i .i64 0, .i .i64 0] []⟩,
        ⟨none, none, .store 5 (.t 2) (.t 70)⟩,
        ⟨some 3, none, .mov (.c (.d (.i .i64 0)))⟩,
        ⟨some 4, none, .mov (.c (.d (.i .i64 32)))⟩] false [])
       (.ret)))
      (.skip))))
     (.keep [2, 5, 6] (.seq
      (.region [⟨some 71, none, .load 5 true (.t 5)⟩,
       ⟨some 72, none, .mov (.t 6)⟩,
       ⟨none, none, .store 5 (.t 2) (.t 71)⟩,
       ⟨some 3, none, .mov (.t 72)⟩,
       ⟨some 4, none, .mov (.c (.d (.i .i64 0)))⟩] false [])
      (.ret)))))))))))))⟩

/-- spindle/code.put -/
def F78_code_put : SFn := ⟨3, false, false, [],
  .seq
   (.region [⟨some 6, none, .mov (.t 2)⟩] false [])
   (.keep [0, 1, 6] (.block 0 (.seq
    (.block 3 (.seq
     (.block 2 (.seq
      (.block 1 (.seq
       (.seq
       (.seq
        (.region [⟨some 8, none, .bin .eql (.t 6) (.c (.d (.i .i64 4)))⟩,
         ⟨some 7, none, .mov (.t 8)⟩] false [])
        (.keep [0, 1, 6, 7] (.cond (.t 7)
        (.exit 1)
        (.skip))))
       (.keep [0, 1, 6] (.seq
        (.region [⟨some 10, none, .bin .eql (.t 6) (.c (.d (.i .i64 2)))⟩,
         ⟨some 9, none, .mov (.t 10)⟩] false [])
        (.keep [0, 1, 9] (.cond (.t 9)
        (.exit 2)
        (.skip))))))
       (.exit 3)))
      (.keep [0, 1] (.region [⟨some 11, none, .mov (.t 0)⟩,
       ⟨some 12, none, .mov (.t 0)⟩,
       ⟨some 13, none, .mov (.t 1)⟩,
       ⟨some 14, none, .bin .shr (.t 13) (.c (.d (.i .u64 24)))⟩,
       ⟨some 15, none, .conv .u8 (.t 14)⟩,
       ⟨some 16, none, .mov (.t 1)⟩,
       ⟨some 17, none, .bin .shr (.t 16) (.c (.d (.i .u64 16)))⟩,
       ⟨some 18, none, .conv .u8 (.t 17)⟩,
       ⟨some 19, none, .iaddr 1 (.t 11) (.c (.d (.i .i64 3)))⟩,
       ⟨none, none, .store 1 (.t 19) (.t 15)⟩,
       ⟨some 20, none, .iaddr 1 (.t 12) (.c (.d (.i .i64 2)))⟩,
       ⟨none, none, .store 1 (.t 20) (.t 18)⟩] false []))))
     (.keep [0, 1] (.region [⟨some 21, none, .mov (.t 0)⟩,
      ⟨some 22, none, .mov (.t 1)⟩,
      ⟨some 23, none, .bin .shr (.t 22) (.c (.d (.i .u64 8)))⟩,
      ⟨some 24, none, .conv .u8 (.t 23)⟩,
      ⟨some 25, none, .iaddr 1 (.t 21) (.c (.d (.i .i64 1)))⟩,
      ⟨none, none, .store 1 (.t 25) (.t 24)⟩] false []))))
    (.keep [0, 1] (.seq
    (.region [⟨some 26, none, .mov (.t 0)⟩,
     ⟨some 27, none, .mov (.t 1)⟩,
     ⟨some 28, none, .conv .u8 (.t 27)⟩,
     ⟨some 29, none, .iaddr 1 (.t 26) (.c (.d (.i .i64 0)))⟩,
     ⟨none, none, .store 1 (.t 29) (.t 28)⟩] false [])
    (.exit 0))))))⟩

/-- spindle/code.take -/
def F79_code_take : SFn := ⟨2, true, true, [.tmp 4],
  .seq
   (.region [⟨some 4, none, .mov (.c (.d (.i .u64 0)))⟩] false [])
   (.keep [0, 1] (.seq
   (.region [⟨some 5, none, .mov (.c (.d (.i .u64 0)))⟩] false [])
   (.keep [0, 1, 5] (.seq
    (.seq
    (.region [⟨some 6, none, .mov (.t 1)⟩] false [])
    (.keep [0, 5, 6] (.block 0 (.seq
     (.block 3 (.seq
      (.block 2 (.seq
       (.block 1 (.seq
        (.seq
         (.seq
         (.region [⟨some 8, none, .bin .eql (.t 6) (.c (.d (.i .i64 4)))⟩,
          ⟨some 7, none, .mov (.t 8)⟩] false [])
         (.keep [0, 5, 6, 7] (.cond (.t 7)
          (.exit 1)
          (.skip))))
         (.keep [0, 5, 6] (.seq
         (.region [⟨some 10, none, .bin .eql (.t 6) (.c (.d (.i .i64 2)))⟩,
          ⟨some 9, none, .mov (.t 10)⟩] false [])
         (.keep [0, 5, 9] (.cond (.t 9)
          (.exit 2)
          (.skip))))))
        (.exit 3)))
       (.keep [0] (.region [⟨some 11, none, .mov (.t 0)⟩,
        ⟨some 12, none, .iaddr 1 (.t 11) (.c (.d (.i .i64 3)))⟩,
        ⟨some 13, none, .load 1 false (.t 12)⟩,
        ⟨some 14, none, .conv .u64 (.t 13)⟩,
        ⟨some 15, none, .bin .shl (.t 14) (.c (.d (.i .u64 24)))⟩,
        ⟨some 16, none, .mov (.t 0)⟩,
        ⟨some 17, none, .iaddr 1 (.t 16) (.c (.d (.i .i64 2)))⟩,
        ⟨some 18, none, .load 1 false (.t 17)⟩,
        ⟨some 19, none, .conv .u64 (.t 18)⟩,
        ⟨some 20, none, .bin .shl (.t 19) (.c (.d (.i .u64 16)))⟩,
        ⟨some 21, none, .bin .or (.t 15) (.t 20)⟩,
        ⟨some 5, none, .mov (.t 21)⟩] true [0, 1, 3, 7, 15, 0, 32, 96, 224, 480, 1023, 2047]))))
      (.keep [0, 5] (.region [⟨some 22, none, .mov (.t 5)⟩,
       ⟨some 23, none, .mov (.t 0)⟩,
       ⟨some 24, none, .iaddr 1 (.t 23) (.c (.d (.i .i64 1)))⟩,
       ⟨some 25, none, .load 1 false (.t 24)⟩,
       ⟨some 26, none, .conv .u64 (.t 25)⟩,
       ⟨some 27, none, .bin .shl (.t 26) (.c (.d (.i .u64 8)))⟩,
       ⟨some 28, none, .bin .or (.t 22) (.t 27)⟩,
       ⟨some 5, none, .mov (.t 28)⟩] false []))))
     (.keep [0, 5] (.seq
      (.region [⟨some 29, none, .mov (.t 5)⟩,
       ⟨some 30, none, .mov (.t 0)⟩,
       ⟨some 31, none, .iaddr 1 (.t 30) (.c (.d (.i .i64 0)))⟩,
       ⟨some 32, none, .load 1 false (.t 31)⟩,
       ⟨some 33, none, .conv .u64 (.t 32)⟩,
       ⟨some 34, none, .bin .or (.t 29) (.t 33)⟩,
       ⟨some 5, none, .mov (.t 34)⟩] false [])
      (.exit 0)))))))
    (.keep [5] (.seq
    (.region [⟨some 35, none, .mov (.t 5)⟩,
     ⟨some 4, none, .mov (.t 35)⟩] false [])
    (.ret)))))))⟩
end Go.Sh
