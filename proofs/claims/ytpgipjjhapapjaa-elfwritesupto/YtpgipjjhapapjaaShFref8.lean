/- Shadow functions of ref8, written by tr.py. -/
import Derived.Test.YtpgipjjhapapjaaShBa
namespace Go.Sh
def F162_spindleref8_Read_b1 : SCode :=
  .seq
         (.seq
          (.region [⟨some 25, none, .mov (.t 7)⟩,
           ⟨some 26, none, .mov (.t 0)⟩,
           ⟨some 27, none, .len false (.t 26)⟩,
           ⟨some 28, none, .bin .lss (.t 25) (.t 27)⟩,
           ⟨some 29, none, .mov (.t 28)⟩,
           ⟨some 30, (some (4, true)), .mov (.t 0)⟩,
           ⟨some 31, (some (4, true)), .mov (.t 7)⟩,
           ⟨some 32, (some (4, true)), .iaddr 1 (.t 30) (.t 31)⟩,
           ⟨some 33, (some (4, true)), .load 1 false (.t 32)⟩,
           ⟨some 34, (some (4, true)), .bin .neq (.t 33) (.c (.d (.i .u8 0)))⟩,
           ⟨some 35, none, .pick (.t 29) (.t 34) (.c (.d (.b false)))⟩] false [])
          (.keep [0, 2, 5, 6, 7, 35] (.cond (.t 35)
          (.skip)
          (.exit 2))))
         (.keep [0, 2, 5, 6, 7] (.block 3 (.region [⟨some 36, none, .mov (.t 7)⟩,
           ⟨some 37, none, .bin .add (.t 36) (.c (.d (.i .i64 1)))⟩,
           ⟨some 7, none, .mov (.t 37)⟩] false [])))
def F162_spindleref8_Read_b0 : SCode :=
  .seq
      (.seq
       (.region [⟨some 20, none, .mov (.t 6)⟩,
        ⟨some 21, none, .mov (.t 0)⟩,
        ⟨some 22, none, .len false (.t 21)⟩,
        ⟨some 23, none, .bin .lss (.t 20) (.t 22)⟩] false [])
       (.keep [0, 2, 5, 6, 23] (.cond (.t 23)
       (.skip)
       (.exit 0))))
      (.keep [0, 2, 5, 6] (.block 1 (.seq
       (.region [⟨some 24, none, .mov (.t 6)⟩,
        ⟨some 7, none, .mov (.t 24)⟩] false [])
       (.keep [0, 2, 5, 6, 7] (.seq
        (.block 2 (.loop [0, 2, 5, 6, 7] false F162_spindleref8_Read_b1))
        (.keep [0, 2, 5, 6, 7] (.seq
        (.region [⟨some 38, none, .mov (.t 0)⟩,
         ⟨some 39, none, .mov (.t 6)⟩,
         ⟨some 40, none, .mov (.t 7)⟩,
         ⟨some 41, none, .slc 1 (.t 38) (some (.t 39)) (some (.t 40)) none⟩,
         ⟨some 42, none, .b2s (.t 41)⟩,
         ⟨some 8, none, .mov (.t 42)⟩] false [])
        (.keep [0, 2, 5, 6, 7, 8] (.seq
         (.region [⟨some 43, none, .mov (.t 8)⟩,
          ⟨some 44, none, .call 171 [.t 43]⟩,
          ⟨some 9, none, .mov (.t 44)⟩] false [])
         (.keep [0, 2, 5, 6, 7, 8, 9] (.seq
         (.seq
          (.region [⟨some 45, none, .mov (.t 9)⟩,
           ⟨some 46, none, .un .not (.t 45)⟩,
           ⟨some 47, none, .mov (.t 46)⟩,
           ⟨some 48, (some (2, false)), .mov (.t 7)⟩,
           ⟨some 49, (some (2, false)), .mov (.t 0)⟩,
           ⟨some 50, (some (2, false)), .len false (.t 49)⟩,
           ⟨some 51, (some (2, false)), .bin .eql (.t 48) (.t 50)⟩,
           ⟨some 52, none, .pick (.t 47) (.c (.d (.b true))) (.t 51)⟩,
           ⟨some 53, none, .mov (.t 52)⟩,
           ⟨some 54, (some (8, false)), .load 1 true (.t 5)⟩,
           ⟨some 55, (some (8, false)), .mov (.t 8)⟩,
           ⟨some 56, (some (8, false)), .call 172 [.t 54, .t 55]⟩,
           ⟨some 57, (some (8, false)), .bin .gtr (.t 56) (.c (.d (.i .i64 0)))⟩,
           ⟨some 58, none, .pick (.t 53) (.c (.d (.b true))) (.t 57)⟩] false [])
          (.keep [0, 2, 5, 6, 7, 8, 58] (.cond (.t 58)
          (.keep [2, 6] (.seq
           (.region [⟨some 59, none, .build [.sl 0 false []] []⟩,
            ⟨some 60, none, .mov (.t 6)⟩,
            ⟨none, none, .store 1 (.t 2) (.t 59)⟩,
            ⟨some 3, none, .mov (.t 60)⟩,
            ⟨some 4, none, .mov (.c (.d (.i .i64 80)))⟩] false [])
           (.ret)))
          (.skip))))
         (.keep [0, 2, 5, 7, 8] (.seq
          (.region [⟨some 61, none, .faddr 0 (.t 5)⟩,
           ⟨some 62, none, .load 1 false (.t 61)⟩,
           ⟨some 63, none, .mov (.t 8)⟩,
           ⟨some 64, none, .lits 1 [.s []] [(0, 1, .t 63)]⟩,
           ⟨some 65, none, .app 1 16 (.t 62) (.t 64)⟩,
           ⟨some 66, none, .faddr 0 (.t 5)⟩,
           ⟨none, none, .store 1 (.t 66) (.t 65)⟩] false [])
          (.keep [0, 2, 5, 7] (.region [⟨some 67, none, .mov (.t 7)⟩,
           ⟨some 68, none, .bin .add (.t 67) (.c (.d (.i .i64 1)))⟩,
           ⟨some 6, none, .mov (.t 68)⟩] false [])))))))))))))))
/-- spindle/spindleref8.Read -/
def F162_spindleref8_Read : SFn := ⟨1, true, true, [.cell 2 1 true, .tmp 3, .tmp 4],
  .seq
   (.region [⟨some 2, none, .alloc [.sl 0 false []]⟩,
    ⟨some 3, none, .mov (.c (.d (.i .i64 0)))⟩,
    ⟨some 4, none, .mov (.c (.d (.i .i64 0)))⟩] false [])
   (.keep [0, 2] (.seq
   (.seq
    (.region [⟨some 10, none, .mov (.t 0)⟩,
     ⟨some 11, none, .len false (.t 10)⟩,
     ⟨some 12, none, .bin .eql (.t 11) (.c (.d (.i .i64 0)))⟩,
     ⟨some 13, none, .mov (.t 12)⟩,
     ⟨some 14, (some (3, false)), .mov (.t 0)⟩,
     ⟨some 15, (some (3, false)), .iaddr 1 (.t 14) (.c (.d (.i .i64 0)))⟩,
     ⟨some 16, (some (3, false)), .load 1 false (.t 15)⟩,
     ⟨some 17, (some (3, false)), .bin .neq (.t 16) (.c (.d (.i .u8 0)))⟩,
     ⟨some 18, none, .pick (.t 13) (.c (.d (.b true))) (.t 17)⟩] false [])
    (.keep [0, 2, 18] (.cond (.t 18)
    (.keep [2] (.seq
     (.region [⟨some 19, none, .build [.sl 0 false []] []⟩,
      ⟨none, none, .store 1 (.t 2) (.t 19)⟩,
      ⟨some 3, none, .mov (.c (.d (.i .i64 0)))⟩,
      ⟨some 4, none, .mov (.c (.d (.i .i64 80)))⟩] false [])
     (.ret)))
    (.skip))))
   (.keep [0, 2] (.seq
    (.region [⟨some 5, none, .alloc [.sl 0 false []]⟩] false [])
    (.keep [0, 2, 5] (.seq
    (.region [⟨some 6, none, .mov (.c (.d (.i .i64 1)))⟩] false [])
    (.keep [0, 2, 5, 6] (.seq
     (.block 0 (.loop [0, 2, 5, 6] false F162_spindleref8_Read_b0))
     (.keep [2, 5] (.seq
     (.region [⟨some 69, none, .load 1 true (.t 5)⟩,
      ⟨none, none, .store 1 (.t 2) (.t 69)⟩,
      ⟨some 3, none, .mov (.c (.d (.i .i64 0)))⟩,
      ⟨some 4, none, .mov (.c (.d (.i .i64 0)))⟩] false [])
     (.ret)))))))))))⟩

/-- (spindle/spindleref8.Table).Add -/
def F164_spindleref8_Table_Add : SFn := ⟨2, true, true, [.cell 4 1 true, .tmp 5, .tmp 6],
  .seq
   (.region [⟨some 2, none, .box (.t 0)⟩,
    ⟨some 4, none, .alloc [.sl 0 false []]⟩,
    ⟨some 5, none, .mov (.c (.d (.i .i64 0)))⟩,
    ⟨some 6, none, .mov (.c (.d (.i .i64 0)))⟩] false [])
   (.keep [1, 2, 4] (.seq
   (.region [⟨some 10, none, .mov (.t 1)⟩,
    ⟨some 11, none, .call 171 [.t 10]⟩,
    ⟨some 7, none, .mov (.t 11)⟩] false [])
   (.keep [1, 2, 4, 7] (.seq
    (.seq
    (.region [⟨some 12, none, .mov (.t 7)⟩,
     ⟨some 13, none, .un .not (.t 12)⟩] false [])
    (.keep [1, 2, 4, 13] (.cond (.t 13)
     (.keep [2, 4] (.seq
     (.region [⟨some 14, none, .load 1 true (.t 2)⟩,
      ⟨none, none, .store 1 (.t 4) (.t 14)⟩,
      ⟨some 5, none, .mov (.c (.d (.i .i64 0)))⟩,
      ⟨some 6, none, .mov (.c (.d (.i .i64 81)))⟩] false [])
     (.ret)))
     (.skip))))
    (.keep [1, 2, 4] (.seq
    (.region [⟨some 15, none, .load 1 true (.t 2)⟩,
     ⟨some 16, none, .mov (.t 1)⟩,
     ⟨some 17, none, .call 172 [.t 15, .t 16]⟩,
     ⟨some 8, none, .mov (.t 17)⟩] false [])
    (.keep [1, 2, 4, 8] (.seq
     (.seq
     (.region [⟨some 18, none, .mov (.t 8)⟩,
      ⟨some 19, none, .bin .gtr (.t 18) (.c (.d (.i .i64 0)))⟩] false [])
     (.keep [1, 2, 4, 8, 19] (.cond (.t 19)
      (.keep [2, 4, 8] (.seq
      (.region [⟨some 20, none, .load 1 true (.t 2)⟩,
       ⟨some 21, none, .mov (.t 8)⟩,
       ⟨none, none, .store 1 (.t 4) (.t 20)⟩,
       ⟨some 5, none, .mov (.t 21)⟩,
       ⟨some 6, none, .mov (.c (.d (.i .i64 0)))⟩] false [])
      (.ret)))
      (.skip))))
     (.keep [1, 2, 4] (.seq
     (.region [⟨some 9, none, .alloc [.sl 0 false []]⟩] false [])
     (.keep [1, 2, 4, 9] (.seq
      (.region [⟨some 22, none, .faddr 0 (.t 9)⟩,
       ⟨some 23, none, .load 1 false (.t 22)⟩,
       ⟨some 24, none, .faddr 0 (.t 2)⟩,
       ⟨some 25, none, .load 1 false (.t 24)⟩,
       ⟨some 26, none, .app 1 16 (.t 23) (.t 25)⟩,
       ⟨some 27, none, .faddr 0 (.t 9)⟩,
       ⟨none, none, .store 1 (.t 27) (.t 26)⟩] false [])
      (.keep [1, 4, 9] (.seq
      (.region [⟨some 28, none, .faddr 0 (.t 9)⟩,
       ⟨some 29, none, .load 1 false (.t 28)⟩,
       ⟨some 30, none, .mov (.t 1)⟩,
       ⟨some 31, none, .lits 1 [.s []] [(0, 1, .t 30)]⟩,
       ⟨some 32, none, .app 1 16 (.t 29) (.t 31)⟩,
       ⟨some 33, none, .faddr 0 (.t 9)⟩,
       ⟨none, none, .store 1 (.t 33) (.t 32)⟩] false [])
      (.keep [1, 4, 9] (.seq
       (.region [⟨some 34, none, .load 1 true (.t 9)⟩,
        ⟨some 35, none, .load 1 true (.t 9)⟩,
        ⟨some 36, none, .mov (.t 1)⟩,
        ⟨some 37, none, .call 172 [.t 35, .t 36]⟩,
        ⟨none, none, .store 1 (.t 4) (.t 34)⟩,
        ⟨some 5, none, .mov (.t 37)⟩,
        ⟨some 6, none, .mov (.c (.d (.i .i64 0)))⟩] true [0, 0, 0, 6, 15, 31, 63])
       (.ret)))))))))))))))))⟩

def F165_spindleref8_Table_At_b0 : SCode :=
  .seq
      (.seq
       (.region [⟨some 10, none, .mov (.t 7)⟩,
        ⟨some 11, none, .faddr 0 (.t 2)⟩,
        ⟨some 12, none, .load 1 false (.t 11)⟩,
        ⟨some 13, none, .len false (.t 12)⟩,
        ⟨some 14, none, .bin .lss (.t 10) (.t 13)⟩] false [])
       (.keep [1, 2, 6, 7, 14] (.cond (.t 14)
       (.skip)
       (.exit 0))))
      (.keep [1, 2, 6, 7] (.seq
       (.block 1 (.seq
        (.seq
        (.region [⟨some 17, none, .mov (.t 6)⟩,
         ⟨some 18, none, .mov (.t 1)⟩,
         ⟨some 19, none, .bin .eql (.t 17) (.t 18)⟩] false [])
        (.keep [1, 2, 6, 7, 19] (.cond (.t 19)
         (.keep [2, 7] (.seq
         (.region [⟨some 20, none, .faddr 0 (.t 2)⟩,
          ⟨some 21, none, .load 1 false (.t 20)⟩,
          ⟨some 22, none, .mov (.t 7)⟩,
          ⟨some 23, none, .iaddr 1 (.t 21) (.t 22)⟩,
          ⟨some 24, none, .load 1 false (.t 23)⟩,
          ⟨some 4, none, .mov (.t 24)⟩,
          ⟨some 5, none, .mov (.c (.d (.i .i64 0)))⟩] false [])
         (.ret)))
         (.skip))))
        (.keep [1, 2, 6, 7] (.region [⟨some 25, none, .mov (.t 6)⟩,
         ⟨some 26, none, .faddr 0 (.t 2)⟩,
         ⟨some 27, none, .load 1 false (.t 26)⟩,
         ⟨some 28, none, .mov (.t 7)⟩,
         ⟨some 29, none, .iaddr 1 (.t 27) (.t 28)⟩,
         ⟨some 30, none, .load 1 false (.t 29)⟩,
         ⟨some 31, none, .len true (.t 30)⟩,
         ⟨some 32, none, .bin .add (.t 25) (.t 31)⟩,
         ⟨some 33, none, .bin .add (.t 32) (.c (.d (.i .i64 1)))⟩,
         ⟨some 6, none, .mov (.t 33)⟩] false []))))
       (.keep [1, 2, 6, 7] (.region [⟨some 15, none, .mov (.t 7)⟩,
        ⟨some 16, none, .bin .add (.t 15) (.c (.d (.i .i64 1)))⟩,
        ⟨some 7, none, .mov (.t 16)⟩] false []))))
/-- (spindle/spindleref8.Table).At -/
def F165_spindleref8_Table_At : SFn := ⟨2, true, true, [.tmp 4, .tmp 5],
  .seq
   (.region [⟨some 2, none, .box (.t 0)⟩,
    ⟨some 4, none, .mov (.c (.d (.s [])))⟩,
    ⟨some 5, none, .mov (.c (.d (.i .i64 0)))⟩] false [])
   (.keep [1, 2] (.seq
   (.seq
    (.region [⟨some 8, none, .mov (.t 1)⟩,
     ⟨some 9, none, .bin .eql (.t 8) (.c (.d (.i .i64 0)))⟩] false [])
    (.keep [1, 2, 9] (.cond (.t 9)
    (.keep [] (.seq
     (.region [⟨some 4, none, .mov (.c (.d (.s [])))⟩,
      ⟨some 5, none, .mov (.c (.d (.i .i64 0)))⟩] false [])
     (.ret)))
    (.skip))))
   (.keep [1, 2] (.seq
    (.region [⟨some 6, none, .mov (.c (.d (.i .i64 1)))⟩] false [])
    (.keep [1, 2, 6] (.seq
    (.seq
     (.region [⟨some 7, none, .mov (.c (.d (.i .i64 0)))⟩] false [])
     (.keep [1, 2, 6, 7] (.block 0 (.loop [1, 2, 6, 7] false F165_spindleref8_Table_At_b0))))
    (.keep [] (.seq
     (.region [⟨some 4, none, .mov (.c (.d (.s [])))⟩,
      ⟨some 5, none, .mov (.c (.d (.i .i64 81)))⟩] false [])
     (.ret)))))))))⟩

def F168_spindleref8_Table_Bytes_b0 : SCode :=
  .seq
      (.seq
      (.region [⟨some 6, none, .mov (.t 4)⟩,
       ⟨some 7, none, .faddr 0 (.t 1)⟩,
       ⟨some 8, none, .load 1 false (.t 7)⟩,
       ⟨some 9, none, .len false (.t 8)⟩,
       ⟨some 10, none, .bin .lss (.t 6) (.t 9)⟩] false [])
      (.keep [1, 3, 4, 10] (.cond (.t 10)
       (.skip)
       (.exit 0))))
      (.keep [1, 3, 4] (.seq
      (.block 1 (.seq
       (.region [⟨some 13, none, .mov (.t 3)⟩,
        ⟨some 14, none, .faddr 0 (.t 1)⟩,
        ⟨some 15, none, .load 1 false (.t 14)⟩,
        ⟨some 16, none, .mov (.t 4)⟩,
        ⟨some 17, none, .iaddr 1 (.t 15) (.t 16)⟩,
        ⟨some 18, none, .load 1 false (.t 17)⟩,
        ⟨some 19, none, .app 1 1 (.t 13) (.t 18)⟩,
        ⟨some 3, none, .mov (.t 19)⟩] false [])
       (.keep [1, 3, 4] (.region [⟨some 20, none, .mov (.t 3)⟩,
        ⟨some 21, none, .lits 1 [.i .u8 0] [(0, 1, .c (.d (.i .u8 0)))]⟩,
        ⟨some 22, none, .app 1 1 (.t 20) (.t 21)⟩,
        ⟨some 3, none, .mov (.t 22)⟩] false []))))
      (.keep [1, 3, 4] (.region [⟨some 11, none, .mov (.t 4)⟩,
       ⟨some 12, none, .bin .add (.t 11) (.c (.d (.i .i64 1)))⟩,
       ⟨some 4, none, .mov (.t 12)⟩] false []))))
/-- (spindle/spindleref8.Table).Bytes -/
def F168_spindleref8_Table_Bytes : SFn := ⟨1, true, true, [.tmp 2],
  .seq
   (.region [⟨some 1, none, .box (.t 0)⟩,
    ⟨some 2, none, .mov (.c (.d (.sl 0 false [])))⟩] false [])
   (.keep [1] (.seq
   (.region [⟨some 5, none, .litsO 1 [.i .u8 0] [(0, 1, .c (.d (.i .u8 0)))]⟩,
    ⟨some 3, none, .mov (.t 5)⟩] false [])
   (.keep [1, 3] (.seq
    (.seq
    (.region [⟨some 4, none, .mov (.c (.d (.i .i64 0)))⟩] false [])
    (.keep [1, 3, 4] (.block 0 (.loop [1, 3, 4] false F168_spindleref8_Table_Bytes_b0))))
    (.keep [3] (.seq
    (.region [⟨some 23, none, .mov (.t 3)⟩,
     ⟨some 2, none, .mov (.t 23)⟩] false [])
    (.ret)))))))⟩

def F171_spindleref8_Named_b0 : SCode :=
  .seq
     (.seq
      (.region [⟨some 4, none, .mov (.t 3)⟩,
       ⟨some 5, none, .mov (.t 0)⟩,
       ⟨some 6, none, .len true (.t 5)⟩,
       ⟨some 7, none, .bin .lss (.t 4) (.t 6)⟩] false [])
      (.keep [0, 3, 7] (.cond (.t 7)
      (.skip)
      (.exit 0))))
     (.keep [0, 3] (.seq
      (.block 1 (.seq
       (.region [⟨some 10, none, .mov (.t 0)⟩,
        ⟨some 11, none, .mov (.t 3)⟩,
        ⟨some 12, none, .idxS (.t 10) (.t 11)⟩,
        ⟨some 13, none, .bin .eql (.t 12) (.c (.d (.i .u8 0)))⟩] false [])
       (.keep [0, 3, 13] (.cond (.t 13)
       (.keep [] (.seq
        (.region [⟨some 2, none, .mov (.c (.d (.b false)))⟩] false [])
        (.ret)))
       (.skip)))))
      (.keep [0, 3] (.region [⟨some 8, none, .mov (.t 3)⟩,
       ⟨some 9, none, .bin .add (.t 8) (.c (.d (.i .i64 1)))⟩,
       ⟨some 3, none, .mov (.t 9)⟩] false []))))
/-- spindle/spindleref8.Named -/
def F171_spindleref8_Named : SFn := ⟨1, true, true, [.tmp 2],
  .seq
   (.region [⟨some 2, none, .mov (.c (.d (.b false)))⟩] false [])
   (.keep [0] (.seq
   (.seq
    (.region [⟨some 3, none, .mov (.c (.d (.i .i64 0)))⟩] false [])
    (.keep [0, 3] (.block 0 (.loop [0, 3] false F171_spindleref8_Named_b0))))
   (.keep [0] (.seq
    (.region [⟨some 14, none, .mov (.t 0)⟩,
     ⟨some 15, none, .len true (.t 14)⟩,
     ⟨some 16, none, .bin .geq (.t 15) (.c (.d (.i .i64 1)))⟩,
     ⟨some 17, none, .mov (.t 16)⟩,
     ⟨some 18, (some (3, true)), .mov (.t 0)⟩,
     ⟨some 19, (some (3, true)), .len true (.t 18)⟩,
     ⟨some 20, (some (3, true)), .bin .leq (.t 19) (.c (.d (.i .i64 64)))⟩,
     ⟨some 21, none, .pick (.t 17) (.t 20) (.c (.d (.b false)))⟩,
     ⟨some 2, none, .mov (.t 21)⟩] false [])
    (.ret)))))⟩

def F172_spindleref8_Table_place_b0 : SCode :=
  .seq
      (.seq
      (.region [⟨some 7, none, .mov (.t 6)⟩,
       ⟨some 8, none, .faddr 0 (.t 2)⟩,
       ⟨some 9, none, .load 1 false (.t 8)⟩,
       ⟨some 10, none, .len false (.t 9)⟩,
       ⟨some 11, none, .bin .lss (.t 7) (.t 10)⟩] false [])
      (.keep [1, 2, 5, 6, 11] (.cond (.t 11)
       (.skip)
       (.exit 0))))
      (.keep [1, 2, 5, 6] (.seq
      (.block 1 (.seq
       (.seq
        (.region [⟨some 14, none, .faddr 0 (.t 2)⟩,
         ⟨some 15, none, .load 1 false (.t 14)⟩,
         ⟨some 16, none, .mov (.t 6)⟩,
         ⟨some 17, none, .iaddr 1 (.t 15) (.t 16)⟩,
         ⟨some 18, none, .load 1 false (.t 17)⟩,
         ⟨some 19, none, .mov (.t 1)⟩,
         ⟨some 20, none, .bin .eql (.t 18) (.t 19)⟩] false [])
        (.keep [1, 2, 5, 6, 20] (.cond (.t 20)
        (.keep [5] (.seq
         (.region [⟨some 21, none, .mov (.t 5)⟩,
          ⟨some 4, none, .mov (.t 21)⟩] false [])
         (.ret)))
        (.skip))))
       (.keep [1, 2, 5, 6] (.region [⟨some 22, none, .mov (.t 5)⟩,
        ⟨some 23, none, .faddr 0 (.t 2)⟩,
        ⟨some 24, none, .load 1 false (.t 23)⟩,
        ⟨some 25, none, .mov (.t 6)⟩,
        ⟨some 26, none, .iaddr 1 (.t 24) (.t 25)⟩,
        ⟨some 27, none, .load 1 false (.t 26)⟩,
        ⟨some 28, none, .len true (.t 27)⟩,
        ⟨some 29, none, .bin .add (.t 22) (.t 28)⟩,
        ⟨some 30, none, .bin .add (.t 29) (.c (.d (.i .i64 1)))⟩,
        ⟨some 5, none, .mov (.t 30)⟩] false []))))
      (.keep [1, 2, 5, 6] (.region [⟨some 12, none, .mov (.t 6)⟩,
       ⟨some 13, none, .bin .add (.t 12) (.c (.d (.i .i64 1)))⟩,
       ⟨some 6, none, .mov (.t 13)⟩] false []))))
/-- (spindle/spindleref8.Table).place -/
def F172_spindleref8_Table_place : SFn := ⟨2, true, true, [.tmp 4],
  .seq
   (.region [⟨some 2, none, .box (.t 0)⟩,
    ⟨some 4, none, .mov (.c (.d (.i .i64 0)))⟩] false [])
   (.keep [1, 2] (.seq
   (.region [⟨some 5, none, .mov (.c (.d (.i .i64 1)))⟩] false [])
   (.keep [1, 2, 5] (.seq
    (.seq
    (.region [⟨some 6, none, .mov (.c (.d (.i .i64 0)))⟩] false [])
    (.keep [1, 2, 5, 6] (.block 0 (.loop [1, 2, 5, 6] false F172_spindleref8_Table_place_b0))))
    (.keep [] (.seq
    (.region [⟨some 4, none, .mov (.c (.d (.i .i64 0)))⟩] false [])
    (.ret)))))))⟩
end Go.Sh
