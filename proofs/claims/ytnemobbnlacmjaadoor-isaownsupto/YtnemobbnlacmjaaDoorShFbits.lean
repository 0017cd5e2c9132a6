/- Shadow functions of bits, written by tr.py. -/
import Derived.Test.YtnemobbnlacmjaaDoorShBa
namespace Go.Sh
/-- math/bits.Len -/
def F97_math_bits_Len : SFn := ⟨1, true, true, [.tmp 2],
  .seq
   (.region [⟨some 2, none, .mov (.c (.d (.i .i64 0)))⟩] false [])
   (.keep [0] (.seq
   (.cond (.c (.d (.b false)))
    (.keep [0] (.seq
    (.region [⟨some 3, none, .mov (.t 0)⟩,
     ⟨some 4, none, .conv .u32 (.t 3)⟩,
     ⟨some 5, none, .call 108 [.t 4]⟩,
     ⟨some 2, none, .mov (.t 5)⟩] false [])
    (.ret)))
    (.skip))
   (.keep [0] (.seq
    (.region [⟨some 6, none, .mov (.t 0)⟩,
     ⟨some 7, none, .call 109 [.t 6]⟩,
     ⟨some 2, none, .mov (.t 7)⟩] false [])
    (.ret)))))⟩

/-- math/bits.Len32 -/
def F108_math_bits_Len32 : SFn := ⟨1, true, true, [.tmp 2],
  .seq
   (.region [⟨some 2, none, .mov (.c (.d (.i .i64 0)))⟩] false [])
   (.keep [0, 2] (.seq
   (.seq
    (.region [⟨some 3, none, .mov (.t 0)⟩,
     ⟨some 4, none, .bin .geq (.t 3) (.c (.d (.i .u32 65536)))⟩] false [])
    (.keep [0, 2, 4] (.cond (.t 4)
    (.keep [0] (.seq
     (.region [⟨some 5, none, .mov (.t 0)⟩,
      ⟨some 6, none, .bin .shr (.t 5) (.c (.d (.i .u64 16)))⟩,
      ⟨some 0, none, .mov (.t 6)⟩] false [])
     (.keep [0] (.region [⟨some 2, none, .mov (.c (.d (.i .i64 16)))⟩] false []))))
    (.skip))))
   (.keep [0, 2] (.seq
    (.seq
    (.region [⟨some 7, none, .mov (.t 0)⟩,
     ⟨some 8, none, .bin .geq (.t 7) (.c (.d (.i .u32 256)))⟩] false [])
    (.keep [0, 2, 8] (.cond (.t 8)
     (.keep [0, 2] (.seq
     (.region [⟨some 9, none, .mov (.t 0)⟩,
      ⟨some 10, none, .bin .shr (.t 9) (.c (.d (.i .u64 8)))⟩,
      ⟨some 0, none, .mov (.t 10)⟩] false [])
     (.keep [0, 2] (.region [⟨some 11, none, .mov (.t 2)⟩,
      ⟨some 12, none, .bin .add (.t 11) (.c (.d (.i .i64 8)))⟩,
      ⟨some 2, none, .mov (.t 12)⟩] false []))))
     (.skip))))
    (.keep [0, 2] (.seq
    (.region [⟨some 13, none, .mov (.t 2)⟩,
     ⟨some 14, none, .mov (.t 0)⟩,
     ⟨some 15, none, .conv .u8 (.t 14)⟩,
     ⟨some 16, none, .idxS (.c (.d (.s [0, 1, 2, 2, 3, 3, 3, 3, 4, 4, 4, 4, 4, 4, 4, 4, 5, 5, 5, 5, 5, 5, 5, 5, 5, 5, 5, 5, 5, 5, 5, 5, 6, 6, 6, 6, 6, 6, 6, 6, 6, 6, 6, 6, 6, 6, 6, 6, 6, 6, 6, 6, 6, 6, 6, 6, 6, 6, 6, 6, 6, 6, 6, 6, 7, 7, 7, 7, 7, 7, 7, 7, 7, 7, 7, 7, 7, 7, 7, 7, 7, 7, 7, 7, 7, 7, 7, 7, 7, 7, 7, 7, 7, 7, 7, 7, 7, 7, 7, 7, 7, 7, 7, 7, 7, 7, 7, 7, 7, 7, 7, 7, 7, 7, 7, 7, 7, 7, 7, 7, 7, 7, 7, 7, 7, 7, 7, 7, 8, 8, 8, 8, 8, 8, 8, 8, 8, 8, 8, 8, 8, 8, 8, 8, 8, 8, 8, 8, 8, 8, 8, 8, 8, 8, 8, 8, 8, 8, 8, 8, 8, 8, 8, 8, 8, 8, 8, 8, 8, 8, 8, 8, 8, 8, 8, 8, 8, 8, 8, 8, 8, 8, 8, 8, 8, 8, 8, 8, 8, 8, 8, 8, 8, 8, 8, 8, 8, 8, 8, 8, 8, 8, 8, 8, 8, 8, 8, 8, 8, 8, 8, 8, 8, 8, 8, 8, 8, 8, 8, 8, 8, 8, 8, 8, 8, 8, 8, 8, 8, 8, 8, 8, 8, 8, 8, 8, 8, 8, 8, 8, 8, 8, 8, 8, 8, 8, 8, 8, 8, 8, 8, 8, 8, 8, 8, 8]))) (.t 15)⟩,
     ⟨some 17, none, .conv .i64 (.t 16)⟩,
     ⟨some 18, none, .bin .add (.t 13) (.t 17)⟩,
     ⟨some 2, none, .mov (.t 18)⟩] false [])
    (.ret)))))))⟩

/-- math/bits.Len64 -/
def F109_math_bits_Len64 : SFn := ⟨1, true, true, [.tmp 2],
  .seq
   (.region [⟨some 2, none, .mov (.c (.d (.i .i64 0)))⟩] false [])
   (.keep [0, 2] (.seq
   (.seq
    (.region [⟨some 3, none, .mov (.t 0)⟩,
     ⟨some 4, none, .bin .geq (.t 3) (.c (.d (.i .u64 4294967296)))⟩] false [])
    (.keep [0, 2, 4] (.cond (.t 4)
    (.keep [0] (.seq
     (.region [⟨some 5, none, .mov (.t 0)⟩,
      ⟨some 6, none, .bin .shr (.t 5) (.c (.d (.i .u64 32)))⟩,
      ⟨some 0, none, .mov (.t 6)⟩] false [])
     (.keep [0] (.region [⟨some 2, none, .mov (.c (.d (.i .i64 32)))⟩] false []))))
    (.skip))))
   (.keep [0, 2] (.seq
    (.seq
    (.region [⟨some 7, none, .mov (.t 0)⟩,
     ⟨some 8, none, .bin .geq (.t 7) (.c (.d (.i .u64 65536)))⟩] false [])
    (.keep [0, 2, 8] (.cond (.t 8)
     (.keep [0, 2] (.seq
     (.region [⟨some 9, none, .mov (.t 0)⟩,
      ⟨some 10, none, .bin .shr (.t 9) (.c (.d (.i .u64 16)))⟩,
      ⟨some 0, none, .mov (.t 10)⟩] false [])
     (.keep [0, 2] (.region [⟨some 11, none, .mov (.t 2)⟩,
      ⟨some 12, none, .bin .add (.t 11) (.c (.d (.i .i64 16)))⟩,
      ⟨some 2, none, .mov (.t 12)⟩] false []))))
     (.skip))))
    (.keep [0, 2] (.seq
    (.seq
     (.region [⟨some 13, none, .mov (.t 0)⟩,
      ⟨some 14, none, .bin .geq (.t 13) (.c (.d (.i .u64 256)))⟩] false [])
     (.keep [0, 2, 14] (.cond (.t 14)
     (.keep [0, 2] (.seq
      (.region [⟨some 15, none, .mov (.t 0)⟩,
       ⟨some 16, none, .bin .shr (.t 15) (.c (.d (.i .u64 8)))⟩,
       ⟨some 0, none, .mov (.t 16)⟩] false [])
      (.keep [0, 2] (.region [⟨some 17, none, .mov (.t 2)⟩,
       ⟨some 18, none, .bin .add (.t 17) (.c (.d (.i .i64 8)))⟩,
       ⟨some 2, none, .mov (.t 18)⟩] false []))))
     (.skip))))
    (.keep [0, 2] (.seq
     (.region [⟨some 19, none, .mov (.t 2)⟩,
      ⟨some 20, none, .mov (.t 0)⟩,
      ⟨some 21, none, .conv .u8 (.t 20)⟩,
      ⟨some 22, none, .idxS (.c (.d (.s [0, 1, 2, 2, 3, 3, 3, 3, 4, 4, 4, 4, 4, 4, 4, 4, 5, 5, 5, 5, 5, 5, 5, 5, 5, 5, 5, 5, 5, 5, 5, 5, 6, 6, 6, 6, 6, 6, 6, 6, 6, 6, 6, 6, 6, 6, 6, 6, 6, 6, 6, 6, 6, 6, 6, 6, 6, 6, 6, 6, 6, 6, 6, 6, 7, 7, 7, 7, 7, 7, 7, 7, 7, 7, 7, 7, 7, 7, 7, 7, 7, 7, 7, 7, 7, 7, 7, 7, 7, 7, 7, 7, 7, 7, 7, 7, 7, 7, 7, 7, 7, 7, 7, 7, 7, 7, 7, 7, 7, 7, 7, 7, 7, 7, 7, 7, 7, 7, 7, 7, 7, 7, 7, 7, 7, 7, 7, 7, 8, 8, 8, 8, 8, 8, 8, 8, 8, 8, 8, 8, 8, 8, 8, 8, 8, 8, 8, 8, 8, 8, 8, 8, 8, 8, 8, 8, 8, 8, 8, 8, 8, 8, 8, 8, 8, 8, 8, 8, 8, 8, 8, 8, 8, 8, 8, 8, 8, 8, 8, 8, 8, 8, 8, 8, 8, 8, 8, 8, 8, 8, 8, 8, 8, 8, 8, 8, 8, 8, 8, 8, 8, 8, 8, 8, 8, 8, 8, 8, 8, 8, 8, 8, 8, 8, 8, 8, 8, 8, 8, 8, 8, 8, 8, 8, 8, 8, 8, 8, 8, 8, 8, 8, 8, 8, 8, 8, 8, 8, 8, 8, 8, 8, 8, 8, 8, 8, 8, 8, 8, 8, 8, 8, 8, 8, 8, 8]))) (.t 21)⟩,
      ⟨some 23, none, .conv .i64 (.t 22)⟩,
      ⟨some 24, none, .bin .add (.t 19) (.t 23)⟩,
      ⟨some 2, none, .mov (.t 24)⟩] false [])
     (.ret)))))))))⟩
end Go.Sh
