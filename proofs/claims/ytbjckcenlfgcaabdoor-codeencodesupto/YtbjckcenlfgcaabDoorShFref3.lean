/- Shadow functions of ref3, written by tr.py. -/
import Derived.Test.YtbjckcenlfgcaabDoorShBa
namespace Go.Sh
/-- spindle/spindleref3.wide -/
def F8_spindleref3_wide : SFn := ⟨1, true, true, [.tmp 2],
  .seq
   (.region [⟨some 2, none, .mov (.c (.d (.b false)))⟩] false [])
   (.keep [0] (.seq
   (.region [⟨some 3, none, .mov (.t 0)⟩,
    ⟨some 4, none, .bin .eql (.t 3) (.c (.d (.i .i64 24)))⟩,
    ⟨some 2, none, .mov (.t 4)⟩] false [])
   (.ret)))⟩

def F134_spindleref3_Encode_b0 : SCode :=
  .seq
      (.seq
      (.region [⟨some 8, none, .mov (.t 6)⟩,
       ⟨some 9, none, .mov (.t 0)⟩,
       ⟨some 10, none, .len false (.t 9)⟩,
       ⟨some 11, none, .bin .lss (.t 8) (.t 10)⟩] false [])
      (.keep [0, 5, 6, 11] (.cond (.t 11)
       (.skip)
       (.exit 0))))
      (.keep [0, 5, 6] (.seq
      (.block 1 (.seq
       (.region [⟨some 14, none, .mov (.t 0)⟩,
        ⟨some 15, none, .mov (.t 6)⟩,
        ⟨some 16, none, .iaddr 5 (.t 14) (.t 15)⟩,
        ⟨some 17, none, .load 5 true (.t 16)⟩,
        ⟨some 18, none, .call 65 [.t 17]⟩,
        ⟨some 7, none, .mov (.t 18)⟩] false [])
       (.keep [0, 5, 6, 7] (.seq
        (.seq
        (.region [⟨some 19, none, .mov (.t 7)⟩,
         ⟨some 20, none, .bin .neq (.t 19) (.c (.d (.i .i64 0)))⟩] false [])
        (.keep [0, 5, 6, 7, 20] (.cond (.t 20)
         (.keep [6, 7] (.seq
         (.region [⟨some 21, none, .mov (.t 6)⟩,
          ⟨some 22, none, .mov (.t 7)⟩,
          ⟨some 2, none, .mov (.c (.d (.sl 0 false [])))⟩,
          ⟨some 3, none, .mov (.t 21)⟩,
          ⟨some 4, none, .mov (.t 22)⟩] false [])
         (.ret)))
         (.skip))))
        (.keep [0, 5, 6] (.region [⟨some 23, none, .mov (.t 5)⟩,
         ⟨some 24, none, .mov (.t 0)⟩,
         ⟨some 25, none, .mov (.t 6)⟩,
         ⟨some 26, none, .iaddr 5 (.t 24) (.t 25)⟩,
         ⟨some 27, none, .load 5 true (.t 26)⟩,
         ⟨some 28, none, .call 136 [.t 27]⟩,
         ⟨some 29, none, .app 1 1 (.t 23) (.t 28)⟩,
         ⟨some 5, none, .mov (.t 29)⟩] false []))))))
      (.keep [0, 5, 6] (.region [⟨some 12, none, .mov (.t 6)⟩,
       ⟨some 13, none, .bin .add (.t 12) (.c (.d (.i .i64 1)))⟩,
       ⟨some 6, none, .mov (.t 13)⟩] false []))))
/-- spindle/spindleref3.Encode -/
def F134_spindleref3_Encode : SFn := ⟨1, true, true, [.tmp 2, .tmp 3, .tmp 4],
  .seq
   (.region [⟨some 2, none, .mov (.c (.d (.sl 0 false [])))⟩,
    ⟨some 3, none, .mov (.c (.d (.i .i64 0)))⟩,
    ⟨some 4, none, .mov (.c (.d (.i .i64 0)))⟩] false [])
   (.keep [0] (.seq
   (.region [⟨some 5, none, .mov (.c (.d (.sl 0 false [])))⟩] false [])
   (.keep [0, 5] (.seq
    (.seq
    (.region [⟨some 6, none, .mov (.c (.d (.i .i64 0)))⟩] false [])
    (.keep [0, 5, 6] (.block 0 (.loop [0, 5, 6] false F134_spindleref3_Encode_b0))))
    (.keep [5] (.seq
    (.region [⟨some 30, none, .mov (.t 5)⟩,
     ⟨some 2, none, .mov (.t 30)⟩,
     ⟨some 3, none, .mov (.c (.d (.i .i64 0)))⟩,
     ⟨some 4, none, .mov (.c (.d (.i .i64 0)))⟩] false [])
    (.ret)))))))⟩

/-- spindle/spindleref3.Bytes -/
def F136_spindleref3_Bytes : SFn := ⟨1, true, true, [.tmp 2],
  .seq
   (.region [⟨some 1, none, .box (.t 0)⟩,
    ⟨some 2, none, .mov (.c (.d (.sl 0 false [])))⟩] false [])
   (.keep [1] (.seq
   (.region [⟨some 4, none, .faddr 0 (.t 1)⟩,
    ⟨some 5, none, .load 1 false (.t 4)⟩,
    ⟨some 6, none, .conv .u8 (.t 5)⟩,
    ⟨some 7, none, .faddr 1 (.t 1)⟩,
    ⟨some 8, none, .load 1 false (.t 7)⟩,
    ⟨some 9, none, .faddr 2 (.t 1)⟩,
    ⟨some 10, none, .load 1 false (.t 9)⟩,
    ⟨some 11, none, .bin .mul (.c (.d (.i .i64 16))) (.t 10)⟩,
    ⟨some 12, none, .bin .add (.t 8) (.t 11)⟩,
    ⟨some 13, none, .conv .u8 (.t 12)⟩,
    ⟨some 14, none, .litsO 2 [.i .u8 0] [(0, 1, .t 6), (1, 1, .t 13)]⟩,
    ⟨some 3, none, .mov (.t 14)⟩] false [])
   (.keep [1, 3] (.seq
    (.region [⟨some 15, none, .mov (.t 3)⟩,
     ⟨some 16, none, .faddr 3 (.t 1)⟩,
     ⟨some 17, none, .load 1 false (.t 16)⟩,
     ⟨some 18, none, .call 137 [.t 17, .c (.d (.i .i64 2))]⟩,
     ⟨some 19, none, .app 1 1 (.t 15) (.t 18)⟩,
     ⟨some 3, none, .mov (.t 19)⟩] false [])
    (.keep [1, 3] (.seq
    (.region [⟨some 20, none, .mov (.t 3)⟩,
     ⟨some 21, none, .faddr 4 (.t 1)⟩,
     ⟨some 22, none, .load 1 false (.t 21)⟩,
     ⟨some 23, none, .call 137 [.t 22, .c (.d (.i .i64 4))]⟩,
     ⟨some 24, none, .app 1 1 (.t 20) (.t 23)⟩,
     ⟨some 3, none, .mov (.t 24)⟩] false [])
    (.keep [1, 3] (.seq
     (.seq
     (.region [⟨some 25, none, .faddr 0 (.t 1)⟩,
      ⟨some 26, none, .load 1 false (.t 25)⟩,
      ⟨some 27, none, .call 8 [.t 26]⟩] false [])
     (.keep [1, 3, 27] (.cond (.t 27)
      (.keep [1, 3] (.seq
      (.region [⟨some 28, none, .mov (.t 3)⟩,
       ⟨some 29, none, .lits 4 [.i .u8 0] [(0, 1, .c (.d (.i .u8 0))), (1, 1, .c (.d (.i .u8 0))), (2, 1, .c (.d (.i .u8 0))), (3, 1, .c (.d (.i .u8 0)))]⟩,
       ⟨some 30, none, .app 1 1 (.t 28) (.t 29)⟩,
       ⟨some 3, none, .mov (.t 30)⟩] false [])
      (.keep [1, 3] (.region [⟨some 31, none, .mov (.t 3)⟩,
       ⟨some 32, none, .faddr 4 (.t 1)⟩,
       ⟨some 33, none, .load 1 false (.t 32)⟩,
       ⟨some 34, none, .bin .shr (.t 33) (.c (.d (.i .u64 32)))⟩,
       ⟨some 35, none, .call 137 [.t 34, .c (.d (.i .i64 4))]⟩,
       ⟨some 36, none, .app 1 1 (.t 31) (.t 35)⟩,
       ⟨some 3, none, .mov (.t 36)⟩] false []))))
      (.skip))))
     (.keep [3] (.seq
     (.region [⟨some 37, none, .mov (.t 3)⟩,
      ⟨some 2, none, .mov (.t 37)⟩] false [])
     (.ret)))))))))))⟩

def F137_spindleref3_number_b0 : SCode :=
  .seq
      (.seq
      (.region [⟨some 7, none, .mov (.t 6)⟩,
       ⟨some 8, none, .mov (.t 1)⟩,
       ⟨some 9, none, .bin .lss (.t 7) (.t 8)⟩] false [])
      (.keep [0, 1, 5, 6, 9] (.cond (.t 9)
       (.skip)
       (.exit 0))))
      (.keep [0, 1, 5, 6] (.seq
      (.block 1 (.seq
       (.region [⟨some 12, none, .mov (.t 5)⟩,
        ⟨some 13, none, .mov (.t 0)⟩,
        ⟨some 14, none, .bin .and (.t 13) (.c (.d (.i .i64 255)))⟩,
        ⟨some 15, none, .conv .u8 (.t 14)⟩,
        ⟨some 16, none, .lits 1 [.i .u8 0] [(0, 1, .t 15)]⟩,
        ⟨some 17, none, .app 1 1 (.t 12) (.t 16)⟩,
        ⟨some 5, none, .mov (.t 17)⟩] false [])
       (.keep [0, 1, 5, 6] (.region [⟨some 18, none, .mov (.t 0)⟩,
        ⟨some 19, none, .bin .shr (.t 18) (.c (.d (.i .u64 8)))⟩,
        ⟨some 0, none, .mov (.t 19)⟩] false []))))
      (.keep [0, 1, 5, 6] (.region [⟨some 10, none, .mov (.t 6)⟩,
       ⟨some 11, none, .bin .add (.t 10) (.c (.d (.i .i64 1)))⟩,
       ⟨some 6, none, .mov (.t 11)⟩] false []))))
/-- spindle/spindleref3.number -/
def F137_spindleref3_number : SFn := ⟨2, true, true, [.tmp 4],
  .seq
   (.region [⟨some 4, none, .mov (.c (.d (.sl 0 false [])))⟩] false [])
   (.keep [0, 1] (.seq
   (.region [⟨some 5, none, .mov (.c (.d (.sl 0 false [])))⟩] false [])
   (.keep [0, 1, 5] (.seq
    (.seq
    (.region [⟨some 6, none, .mov (.c (.d (.i .i64 0)))⟩] false [])
    (.keep [0, 1, 5, 6] (.block 0 (.loop [0, 1, 5, 6] false F137_spindleref3_number_b0))))
    (.keep [5] (.seq
    (.region [⟨some 20, none, .mov (.t 5)⟩,
     ⟨some 4, none, .mov (.t 20)⟩] false [])
    (.ret)))))))⟩
end Go.Sh
