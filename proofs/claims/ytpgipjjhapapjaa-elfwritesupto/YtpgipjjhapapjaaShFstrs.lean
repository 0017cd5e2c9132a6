/- Shadow functions of strs, written by tr.py. -/
import Derived.Test.YtpgipjjhapapjaaShBa
namespace Go.Sh
/-- spindle/strs.New -/
def F139_strs_New : SFn := ⟨0, false, false, [.tmp 0],
  .seq
   (.region [⟨some 0, none, .mov (.c (.d (.np)))⟩] false [])
   (.keep [] (.seq
   (.region [⟨some 1, none, .mkMap none⟩,
    ⟨some 2, none, .build [.sl 0 false [], .sl 0 false [], .nm, .i .i64 0] [(2, 1, .t 1), (3, 1, .c (.d (.i .i64 1)))]⟩,
    ⟨some 3, none, .box (.t 2)⟩,
    ⟨some 0, none, .mov (.t 3)⟩] false [])
   (.ret)))⟩

/-- (*spindle/strs.Table).Add -/
def F140_strs_Table_Add : SFn := ⟨2, false, false, [.tmp 4, .tmp 5],
  .seq
   (.region [⟨some 4, none, .mov (.c (.d (.i .i64 0)))⟩,
    ⟨some 5, none, .mov (.c (.d (.i .i64 0)))⟩] false [])
   (.keep [0, 1] (.seq
   (.block 0 (.seq
    (.region [⟨some 9, none, .mov (.t 0)⟩,
     ⟨some 10, none, .eqv false [12] (.t 9) (.c (.d (.np)))⟩,
     ⟨some 8, none, .mov (.t 10)⟩] false [])
    (.keep [0, 1, 8] (.cond (.t 8)
     (.keep [] (.seq
     (.region [⟨some 4, none, .mov (.c (.d (.i .i64 0)))⟩,
      ⟨some 5, none, .mov (.c (.d (.i .i64 1)))⟩] false [])
     (.ret)))
     (.keep [0, 1] (.seq
     (.region [⟨some 12, none, .mov (.t 1)⟩,
      ⟨some 13, none, .call 146 [.t 12]⟩,
      ⟨some 14, none, .un .not (.t 13)⟩,
      ⟨some 11, none, .mov (.t 14)⟩] false [])
     (.keep [0, 1, 11] (.cond (.t 11)
      (.keep [] (.seq
      (.region [⟨some 4, none, .mov (.c (.d (.i .i64 0)))⟩,
       ⟨some 5, none, .mov (.c (.d (.i .i64 81)))⟩] false [])
      (.ret)))
      (.skip)))))))))
   (.keep [0, 1] (.seq
    (.seq
    (.region [⟨some 16, none, .mov (.t 0)⟩,
     ⟨some 17, none, .nilChk (.t 16)⟩,
     ⟨some 18, none, .faddr 2 (.t 17)⟩,
     ⟨some 19, none, .load 1 false (.t 18)⟩,
     ⟨some 20, none, .mov (.t 1)⟩,
     ⟨some 21, none, .look true true [.i .i64 0] false (.t 19) (.t 20)⟩,
     ⟨some 15, none, .mov (.t 21)⟩,
     ⟨some 22, none, .extract 0 (.t 15)⟩,
     ⟨some 23, none, .extract 1 (.t 15)⟩,
     ⟨some 6, none, .mov (.t 22)⟩,
     ⟨some 7, none, .mov (.t 23)⟩] false [])
    (.keep [0, 1, 6, 7] (.seq
     (.region [⟨some 24, none, .mov (.t 7)⟩] false [])
     (.keep [0, 1, 6, 24] (.cond (.t 24)
     (.keep [6] (.seq
      (.region [⟨some 25, none, .mov (.t 6)⟩,
       ⟨some 4, none, .mov (.t 25)⟩,
       ⟨some 5, none, .mov (.c (.d (.i .i64 0)))⟩] false [])
      (.ret)))
     (.skip))))))
    (.keep [0, 1] (.seq
    (.region [⟨some 26, none, .mov (.t 0)⟩,
     ⟨some 27, none, .mov (.t 1)⟩,
     ⟨some 28, none, .call 147 [.t 26, .t 27]⟩,
     ⟨some 4, none, .mov (.t 28)⟩,
     ⟨some 5, none, .mov (.c (.d (.i .i64 0)))⟩] false [])
    (.ret)))))))⟩

def F142_strs_Table_Bytes_b0 : SCode :=
  .seq
      (.region [⟨some 20, none, .bin .lss (.t 19) (.t 18)⟩] false [])
      (.keep [4, 17, 18, 19, 20] (.seq
       (.cond (.t 20)
       (.skip)
       (.exit 0))
       (.keep [4, 17, 18, 19] (.seq
       (.block 1 (.seq
        (.region [⟨some 21, none, .iaddr 1 (.t 17) (.t 19)⟩,
         ⟨some 22, none, .load 1 false (.t 21)⟩,
         ⟨some 6, none, .mov (.t 22)⟩] false [])
        (.keep [4, 6, 17, 18, 19] (.region [⟨some 23, none, .mov (.t 4)⟩,
         ⟨some 24, none, .mov (.t 6)⟩,
         ⟨some 25, none, .app 1 1 (.t 23) (.t 24)⟩,
         ⟨some 26, none, .lits 1 [.i .u8 0] [(0, 1, .c (.d (.i .u8 0)))]⟩,
         ⟨some 27, none, .app 1 1 (.t 25) (.t 26)⟩,
         ⟨some 4, none, .mov (.t 27)⟩] false []))))
       (.keep [4, 17, 18, 19] (.region [⟨some 28, none, .bin .add (.t 19) (.c (.d (.i .i64 1)))⟩,
        ⟨some 19, none, .mov (.t 28)⟩] false []))))))
/-- (*spindle/strs.Table).Bytes -/
def F142_strs_Table_Bytes : SFn := ⟨1, true, false, [.tmp 2, .tmp 3],
  .seq
   (.region [⟨some 2, none, .mov (.c (.d (.sl 0 false [])))⟩,
    ⟨some 3, none, .mov (.c (.d (.i .i64 0)))⟩] false [])
   (.keep [0] (.seq
   (.seq
    (.region [⟨some 7, none, .mov (.t 0)⟩,
     ⟨some 8, none, .eqv false [12] (.t 7) (.c (.d (.np)))⟩] false [])
    (.keep [0, 8] (.cond (.t 8)
    (.keep [] (.seq
     (.region [⟨some 2, none, .mov (.c (.d (.sl 0 false [])))⟩,
      ⟨some 3, none, .mov (.c (.d (.i .i64 1)))⟩] false [])
     (.ret)))
    (.skip))))
   (.keep [0] (.seq
    (.region [⟨some 9, none, .mov (.t 0)⟩,
     ⟨some 10, none, .nilChk (.t 9)⟩,
     ⟨some 11, none, .faddr 3 (.t 10)⟩,
     ⟨some 12, none, .load 1 false (.t 11)⟩,
     ⟨some 13, none, .mkO 1 1 [.i .u8 0] (.c (.d (.i .i64 1))) (.t 12)⟩,
     ⟨some 4, none, .mov (.t 13)⟩] false [])
    (.keep [0, 4] (.seq
    (.seq
     (.region [⟨some 14, none, .mov (.t 0)⟩,
      ⟨some 15, none, .nilChk (.t 14)⟩,
      ⟨some 16, none, .faddr 0 (.t 15)⟩,
      ⟨some 17, none, .load 1 false (.t 16)⟩,
      ⟨some 18, none, .len false (.t 17)⟩,
      ⟨some 19, none, .mov (.c (.d (.i .i64 0)))⟩] false [])
     (.keep [4, 17, 18, 19] (.block 0 (.loop [4, 17, 18, 19] false F142_strs_Table_Bytes_b0))))
    (.keep [4] (.seq
     (.region [⟨some 29, none, .mov (.t 4)⟩,
      ⟨some 2, none, .mov (.t 29)⟩,
      ⟨some 3, none, .mov (.c (.d (.i .i64 0)))⟩] false [])
     (.ret)))))))))⟩

def F143_strs_Read_b0 : SCode :=
  .seq
      (.seq
      (.region [⟨some 20, none, .mov (.t 5)⟩,
       ⟨some 21, none, .nilChk (.t 20)⟩,
       ⟨some 22, none, .faddr 3 (.t 21)⟩,
       ⟨some 23, none, .load 1 false (.t 22)⟩,
       ⟨some 24, none, .mov (.t 0)⟩,
       ⟨some 25, none, .len false (.t 24)⟩,
       ⟨some 26, none, .bin .lss (.t 23) (.t 25)⟩] false [])
      (.keep [0, 5, 26] (.cond (.t 26)
       (.skip)
       (.exit 0))))
      (.keep [0, 5] (.block 1 (.seq
       (.region [⟨some 27, none, .mov (.t 0)⟩,
        ⟨some 28, none, .mov (.t 5)⟩,
        ⟨some 29, none, .nilChk (.t 28)⟩,
        ⟨some 30, none, .faddr 3 (.t 29)⟩,
        ⟨some 31, none, .load 1 false (.t 30)⟩,
        ⟨some 32, none, .slc 1 (.t 27) (some (.t 31)) none none⟩,
        ⟨some 33, none, .call 148 [.t 32, .c (.d (.i .u8 0))]⟩,
        ⟨some 6, none, .mov (.t 33)⟩] false [])
       (.keep [0, 5, 6] (.seq
       (.seq
        (.region [⟨some 34, none, .mov (.t 6)⟩,
         ⟨some 35, none, .bin .lss (.t 34) (.c (.d (.i .i64 1)))⟩,
         ⟨some 36, none, .mov (.t 35)⟩,
         ⟨some 37, (some (2, false)), .mov (.t 6)⟩,
         ⟨some 38, (some (2, false)), .bin .gtr (.t 37) (.c (.d (.i .i64 64)))⟩,
         ⟨some 39, none, .pick (.t 36) (.c (.d (.b true))) (.t 38)⟩] false [])
        (.keep [0, 5, 6, 39] (.cond (.t 39)
        (.keep [5] (.seq
         (.region [⟨some 40, none, .mov (.t 5)⟩,
          ⟨some 41, none, .nilChk (.t 40)⟩,
          ⟨some 42, none, .faddr 3 (.t 41)⟩,
          ⟨some 43, none, .load 1 false (.t 42)⟩,
          ⟨some 2, none, .mov (.c (.d (.np)))⟩,
          ⟨some 3, none, .mov (.t 43)⟩,
          ⟨some 4, none, .mov (.c (.d (.i .i64 80)))⟩] true [0, 1, 3, 7, 0, 31, 63])
         (.ret)))
        (.skip))))
       (.keep [0, 5, 6] (.seq
        (.region [⟨some 44, none, .mov (.t 0)⟩,
         ⟨some 45, none, .mov (.t 5)⟩,
         ⟨some 46, none, .nilChk (.t 45)⟩,
         ⟨some 47, none, .faddr 3 (.t 46)⟩,
         ⟨some 48, none, .load 1 false (.t 47)⟩,
         ⟨some 49, none, .mov (.t 5)⟩,
         ⟨some 50, none, .nilChk (.t 49)⟩,
         ⟨some 51, none, .faddr 3 (.t 50)⟩,
         ⟨some 52, none, .load 1 false (.t 51)⟩,
         ⟨some 53, none, .mov (.t 6)⟩,
         ⟨some 54, none, .bin .add (.t 52) (.t 53)⟩,
         ⟨some 55, none, .slc 1 (.t 44) (some (.t 48)) (some (.t 54)) none⟩,
         ⟨some 56, none, .b2s (.t 55)⟩,
         ⟨some 7, none, .mov (.t 56)⟩] true [0, 0, 2, 6, 14, 0, 32, 96, 224, 0, 992, 2047, 4095, 8191])
        (.keep [0, 5, 7] (.seq
        (.seq
         (.region [⟨some 58, none, .mov (.t 5)⟩,
          ⟨some 59, none, .nilChk (.t 58)⟩,
          ⟨some 60, none, .faddr 2 (.t 59)⟩,
          ⟨some 61, none, .load 1 false (.t 60)⟩,
          ⟨some 62, none, .mov (.t 7)⟩,
          ⟨some 63, none, .look true true [.i .i64 0] false (.t 61) (.t 62)⟩,
          ⟨some 57, none, .mov (.t 63)⟩,
          ⟨some 64, none, .extract 0 (.t 57)⟩,
          ⟨some 65, none, .extract 1 (.t 57)⟩,
          ⟨some 8, none, .mov (.t 64)⟩,
          ⟨some 9, none, .mov (.t 65)⟩] false [])
         (.keep [0, 5, 7, 9] (.seq
         (.region [⟨some 66, none, .mov (.t 9)⟩] false [])
         (.keep [0, 5, 7, 66] (.cond (.t 66)
          (.keep [5] (.seq
          (.region [⟨some 67, none, .mov (.t 5)⟩,
           ⟨some 68, none, .nilChk (.t 67)⟩,
           ⟨some 69, none, .faddr 3 (.t 68)⟩,
           ⟨some 70, none, .load 1 false (.t 69)⟩,
           ⟨some 2, none, .mov (.c (.d (.np)))⟩,
           ⟨some 3, none, .mov (.t 70)⟩,
           ⟨some 4, none, .mov (.c (.d (.i .i64 80)))⟩] true [0, 1, 3, 7, 0, 31, 63])
          (.ret)))
          (.skip))))))
        (.keep [0, 5, 7] (.region [⟨some 71, none, .mov (.t 5)⟩,
         ⟨some 72, none, .mov (.t 7)⟩,
         ⟨some 73, none, .call 147 [.t 71, .t 72]⟩] false [])))))))))))
/-- spindle/strs.Read -/
def F143_strs_Read : SFn := ⟨1, false, false, [.tmp 2, .tmp 3, .tmp 4],
  .seq
   (.region [⟨some 2, none, .mov (.c (.d (.np)))⟩,
    ⟨some 3, none, .mov (.c (.d (.i .i64 0)))⟩,
    ⟨some 4, none, .mov (.c (.d (.i .i64 0)))⟩] false [])
   (.keep [0] (.seq
   (.seq
    (.region [⟨some 10, none, .mov (.t 0)⟩,
     ⟨some 11, none, .len false (.t 10)⟩,
     ⟨some 12, none, .bin .eql (.t 11) (.c (.d (.i .i64 0)))⟩,
     ⟨some 13, none, .mov (.t 12)⟩,
     ⟨some 14, (some (3, false)), .mov (.t 0)⟩,
     ⟨some 15, (some (3, false)), .iaddr 1 (.t 14) (.c (.d (.i .i64 0)))⟩,
     ⟨some 16, (some (3, false)), .load 1 false (.t 15)⟩,
     ⟨some 17, (some (3, false)), .bin .neq (.t 16) (.c (.d (.i .u8 0)))⟩,
     ⟨some 18, none, .pick (.t 13) (.c (.d (.b true))) (.t 17)⟩] false [])
    (.keep [0, 18] (.cond (.t 18)
    (.keep [] (.seq
     (.region [⟨some 2, none, .mov (.c (.d (.np)))⟩,
      ⟨some 3, none, .mov (.c (.d (.i .i64 0)))⟩,
      ⟨some 4, none, .mov (.c (.d (.i .i64 80)))⟩] false [])
     (.ret)))
    (.skip))))
   (.keep [0] (.seq
    (.region [⟨some 19, none, .call 139 []⟩,
     ⟨some 5, none, .mov (.t 19)⟩] false [])
    (.keep [0, 5] (.seq
    (.block 0 (.loop [0, 5] false F143_strs_Read_b0))
    (.keep [5] (.seq
     (.region [⟨some 74, none, .mov (.t 5)⟩,
      ⟨some 2, none, .mov (.t 74)⟩,
      ⟨some 3, none, .mov (.c (.d (.i .i64 0)))⟩,
      ⟨some 4, none, .mov (.c (.d (.i .i64 0)))⟩] false [])
     (.ret)))))))))⟩

/-- (*spindle/strs.Table).At -/
def F144_strs_Table_At : SFn := ⟨2, true, false, [.tmp 4, .tmp 5],
  .seq
   (.region [⟨some 4, none, .mov (.c (.d (.s [])))⟩,
    ⟨some 5, none, .mov (.c (.d (.i .i64 0)))⟩] false [])
   (.keep [0, 1] (.seq
   (.seq
    (.region [⟨some 8, none, .mov (.t 0)⟩,
     ⟨some 9, none, .eqv false [12] (.t 8) (.c (.d (.np)))⟩] false [])
    (.keep [0, 1, 9] (.cond (.t 9)
    (.keep [] (.seq
     (.region [⟨some 4, none, .mov (.c (.d (.s [])))⟩,
      ⟨some 5, none, .mov (.c (.d (.i .i64 1)))⟩] false [])
     (.ret)))
    (.skip))))
   (.keep [0, 1] (.seq
    (.seq
    (.region [⟨some 10, none, .mov (.t 1)⟩,
     ⟨some 11, none, .bin .eql (.t 10) (.c (.d (.i .i64 0)))⟩] false [])
    (.keep [0, 1, 11] (.cond (.t 11)
     (.keep [] (.seq
     (.region [⟨some 4, none, .mov (.c (.d (.s [])))⟩,
      ⟨some 5, none, .mov (.c (.d (.i .i64 0)))⟩] false [])
     (.ret)))
     (.skip))))
    (.keep [0, 1] (.seq
    (.region [⟨some 13, none, .mov (.t 0)⟩,
     ⟨some 14, none, .nilChk (.t 13)⟩,
     ⟨some 15, none, .faddr 1 (.t 14)⟩,
     ⟨some 16, none, .load 1 false (.t 15)⟩,
     ⟨some 17, none, .mov (.t 1)⟩,
     ⟨some 18, none, .call 149 [.t 16, .t 17]⟩,
     ⟨some 12, none, .mov (.t 18)⟩,
     ⟨some 19, none, .extract 0 (.t 12)⟩,
     ⟨some 20, none, .extract 1 (.t 12)⟩,
     ⟨some 6, none, .mov (.t 19)⟩,
     ⟨some 7, none, .mov (.t 20)⟩] false [])
    (.keep [0, 6, 7] (.seq
     (.seq
     (.region [⟨some 21, none, .mov (.t 7)⟩,
      ⟨some 22, none, .un .not (.t 21)⟩] false [])
     (.keep [0, 6, 22] (.cond (.t 22)
      (.keep [] (.seq
      (.region [⟨some 4, none, .mov (.c (.d (.s [])))⟩,
       ⟨some 5, none, .mov (.c (.d (.i .i64 81)))⟩] false [])
      (.ret)))
      (.skip))))
     (.keep [0, 6] (.seq
     (.region [⟨some 23, none, .mov (.t 0)⟩,
      ⟨some 24, none, .nilChk (.t 23)⟩,
      ⟨some 25, none, .faddr 0 (.t 24)⟩,
      ⟨some 26, none, .load 1 false (.t 25)⟩,
      ⟨some 27, none, .mov (.t 6)⟩,
      ⟨some 28, none, .iaddr 1 (.t 26) (.t 27)⟩,
      ⟨some 29, none, .load 1 false (.t 28)⟩,
      ⟨some 4, none, .mov (.t 29)⟩,
      ⟨some 5, none, .mov (.c (.d (.i .i64 0)))⟩] false [])
     (.ret)))))))))))⟩

/-- spindle/strs.isName -/
def F146_strs_isName : SFn := ⟨1, true, true, [.tmp 2],
  .seq
   (.region [⟨some 2, none, .mov (.c (.d (.b false)))⟩] false [])
   (.keep [0] (.seq
   (.region [⟨some 3, none, .mov (.t 0)⟩,
    ⟨some 4, none, .bin .neq (.t 3) (.c (.d (.s [])))⟩,
    ⟨some 5, none, .mov (.t 4)⟩,
    ⟨some 6, (some (2, true)), .mov (.t 0)⟩,
    ⟨some 7, (some (2, true)), .len true (.t 6)⟩,
    ⟨some 8, (some (2, true)), .bin .leq (.t 7) (.c (.d (.i .i64 64)))⟩,
    ⟨some 9, none, .pick (.t 5) (.t 8) (.c (.d (.b false)))⟩,
    ⟨some 10, none, .mov (.t 9)⟩,
    ⟨some 11, (some (7, true)), .mov (.t 0)⟩,
    ⟨some 12, (some (7, true)), .call 150 [.t 11, .c (.d (.i .u8 0))]⟩,
    ⟨some 13, (some (7, true)), .bin .lss (.t 12) (.c (.d (.i .i64 0)))⟩,
    ⟨some 14, none, .pick (.t 10) (.t 13) (.c (.d (.b false)))⟩,
    ⟨some 2, none, .mov (.t 14)⟩] false [])
   (.ret)))⟩

/-- (*spindle/strs.Table).put -/
def F147_strs_Table_put : SFn := ⟨2, false, false, [.tmp 4],
  .seq
   (.region [⟨some 4, none, .mov (.c (.d (.i .i64 0)))⟩] false [])
   (.keep [0, 1] (.seq
   (.region [⟨some 6, none, .mov (.t 0)⟩,
    ⟨some 7, none, .nilChk (.t 6)⟩,
    ⟨some 8, none, .faddr 3 (.t 7)⟩,
    ⟨some 9, none, .load 1 false (.t 8)⟩,
    ⟨some 5, none, .mov (.t 9)⟩] false [])
   (.keep [0, 1, 5] (.seq
    (.region [⟨some 10, none, .mov (.t 1)⟩,
     ⟨some 11, none, .call 151 [.t 10]⟩,
     ⟨some 1, none, .mov (.t 11)⟩] false [])
    (.keep [0, 1, 5] (.seq
    (.region [⟨some 12, none, .mov (.t 0)⟩,
     ⟨some 13, none, .mov (.t 0)⟩,
     ⟨some 14, none, .nilChk (.t 13)⟩,
     ⟨some 15, none, .faddr 0 (.t 14)⟩,
     ⟨some 16, none, .load 1 false (.t 15)⟩,
     ⟨some 17, none, .mov (.t 1)⟩,
     ⟨some 18, none, .lits 1 [.s []] [(0, 1, .t 17)]⟩,
     ⟨some 19, none, .app 1 16 (.t 16) (.t 18)⟩,
     ⟨some 20, none, .nilChk (.t 12)⟩,
     ⟨some 21, none, .faddr 0 (.t 20)⟩,
     ⟨none, none, .store 1 (.t 21) (.t 19)⟩] false [])
    (.keep [0, 1, 5] (.seq
     (.region [⟨some 22, none, .mov (.t 0)⟩,
      ⟨some 23, none, .mov (.t 0)⟩,
      ⟨some 24, none, .nilChk (.t 23)⟩,
      ⟨some 25, none, .faddr 1 (.t 24)⟩,
      ⟨some 26, none, .load 1 false (.t 25)⟩,
      ⟨some 27, none, .mov (.t 5)⟩,
      ⟨some 28, none, .lits 1 [.i .i64 0] [(0, 1, .t 27)]⟩,
      ⟨some 29, none, .app 1 8 (.t 26) (.t 28)⟩,
      ⟨some 30, none, .nilChk (.t 22)⟩,
      ⟨some 31, none, .faddr 1 (.t 30)⟩,
      ⟨none, none, .store 1 (.t 31) (.t 29)⟩] false [])
     (.keep [0, 1, 5] (.seq
     (.region [⟨some 32, none, .mov (.t 0)⟩,
      ⟨some 33, none, .nilChk (.t 32)⟩,
      ⟨some 34, none, .faddr 2 (.t 33)⟩,
      ⟨some 35, none, .load 1 false (.t 34)⟩,
      ⟨some 36, none, .mov (.t 1)⟩,
      ⟨some 37, none, .mov (.t 5)⟩,
      ⟨none, none, .mapSet true (.t 35) (.t 36) (.t 37)⟩] false [])
     (.keep [0, 1, 5] (.seq
      (.region [⟨some 38, none, .mov (.t 0)⟩,
       ⟨some 39, none, .nilChk (.t 38)⟩,
       ⟨some 40, none, .faddr 3 (.t 39)⟩,
       ⟨some 41, none, .load 1 false (.t 40)⟩,
       ⟨some 42, none, .mov (.t 1)⟩,
       ⟨some 43, none, .len true (.t 42)⟩,
       ⟨some 44, none, .bin .add (.t 43) (.c (.d (.i .i64 1)))⟩,
       ⟨some 45, none, .bin .add (.t 41) (.t 44)⟩,
       ⟨some 46, none, .nilChk (.t 38)⟩,
       ⟨some 47, none, .faddr 3 (.t 46)⟩,
       ⟨none, none, .store 1 (.t 47) (.t 45)⟩] false [])
      (.keep [5] (.seq
      (.region [⟨some 48, none, .mov (.t 5)⟩,
       ⟨some 4, none, .mov (.t 48)⟩] false [])
      (.ret)))))))))))))))⟩

/-- (*spindle/strs.Table).Names -/
def F166_strs_Table_Names : SFn := ⟨1, true, false, [.tmp 2, .tmp 3],
  .seq
   (.region [⟨some 2, none, .mov (.c (.d (.sl 0 false [])))⟩,
    ⟨some 3, none, .mov (.c (.d (.i .i64 0)))⟩] false [])
   (.keep [0] (.seq
   (.seq
    (.region [⟨some 4, none, .mov (.t 0)⟩,
     ⟨some 5, none, .eqv false [12] (.t 4) (.c (.d (.np)))⟩] false [])
    (.keep [0, 5] (.cond (.t 5)
    (.keep [] (.seq
     (.region [⟨some 2, none, .mov (.c (.d (.sl 0 false [])))⟩,
      ⟨some 3, none, .mov (.c (.d (.i .i64 1)))⟩] false [])
     (.ret)))
    (.skip))))
   (.keep [0] (.seq
    (.region [⟨some 6, none, .mov (.t 0)⟩,
     ⟨some 7, none, .nilChk (.t 6)⟩,
     ⟨some 8, none, .faddr 0 (.t 7)⟩,
     ⟨some 9, none, .load 1 false (.t 8)⟩,
     ⟨some 10, none, .call 173 [.t 9]⟩,
     ⟨some 2, none, .mov (.t 10)⟩,
     ⟨some 3, none, .mov (.c (.d (.i .i64 0)))⟩] false [])
    (.ret)))))⟩
end Go.Sh
