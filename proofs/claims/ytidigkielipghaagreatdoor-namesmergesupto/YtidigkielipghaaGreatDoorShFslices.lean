/- Part of the proof. -/
import Derived.Test.YtidigkielipghaaGreatDoorShBa
namespace Go.Sh
def F22:SFn:=⟨2,true,true,[.tmp 4],
  .seq
   (.region [⟨some 4,none,.mov (.c (.d (.b false)))⟩] false [])
   (.keep [0,1] (.seq
   (.region [⟨some 5,none,.mov (.t 0)⟩,
    ⟨some 6,none,.mov (.t 1)⟩,
    ⟨some 7,none,.call 24 [.t 5,.t 6]⟩,
    ⟨some 8,none,.bin .geq (.t 7) (.c (.d (.i .i64 0)))⟩,
    ⟨some 4,none,.mov (.t 8)⟩] false [])
   (.ret)))⟩
def F24_b0:SCode:=
  .seq
     (.region [⟨some 9,none,.bin .lss (.t 8) (.t 7)⟩] false [])
     (.keep [0,1,7,8,9] (.seq
      (.cond (.t 9)
      (.skip)
      (.exit 0))
      (.keep [0,1,7,8] (.seq
      (.block 1 (.seq
       (.region [⟨some 10,none,.mov (.t 8)⟩,
        ⟨some 5,none,.mov (.t 10)⟩] false [])
       (.keep [0,1,5,7,8] (.seq
        (.region [⟨some 11,none,.mov (.t 1)⟩,
         ⟨some 12,none,.mov (.t 0)⟩,
         ⟨some 13,none,.mov (.t 5)⟩,
         ⟨some 14,none,.iaddr 1 (.t 12) (.t 13)⟩,
         ⟨some 15,none,.load 1 false (.t 14)⟩,
         ⟨some 16,none,.bin .eql (.t 11) (.t 15)⟩] false [])
        (.keep [0,1,5,7,8,16] (.cond (.t 16)
        (.keep [5] (.seq
         (.region [⟨some 17,none,.mov (.t 5)⟩,
          ⟨some 4,none,.mov (.t 17)⟩] false [])
         (.ret)))
        (.skip)))))))
      (.keep [0,1,7,8] (.region [⟨some 18,none,.bin .add (.t 8) (.c (.d (.i .i64 1)))⟩,
       ⟨some 8,none,.mov (.t 18)⟩] false []))))))
def F24:SFn:=⟨2,true,true,[.tmp 4],
  .seq
   (.region [⟨some 4,none,.mov (.c (.d (.i .i64 0)))⟩] false [])
   (.keep [0,1] (.seq
   (.seq
    (.region [⟨some 6,none,.mov (.t 0)⟩,
     ⟨some 7,none,.len false (.t 6)⟩,
     ⟨some 8,none,.mov (.c (.d (.i .i64 0)))⟩] false [])
    (.keep [0,1,7,8] (.block 0 (.loop [0,1,7,8] false F24_b0))))
   (.keep [] (.seq
    (.region [⟨some 4,none,.mov (.c (.d (.i .i64 (-1))))⟩] false [])
    (.ret)))))⟩
def F347:SFn:=⟨2,true,false,[.tmp 4],
  .seq
   (.region [⟨some 4,none,.mov (.c (.d (.b false)))⟩] false [])
   (.keep [0,1] (.seq
   (.region [⟨some 5,none,.mov (.t 0)⟩,
    ⟨some 6,none,.mov (.t 1)⟩,
    ⟨some 7,none,.call 349 [.t 5,.t 6]⟩,
    ⟨some 8,none,.bin .geq (.t 7) (.c (.d (.i .i64 0)))⟩,
    ⟨some 4,none,.mov (.t 8)⟩] false [])
   (.ret)))⟩
def F349_b0:SCode:=
  .seq
     (.region [⟨some 9,none,.bin .lss (.t 8) (.t 7)⟩] false [])
     (.keep [0,1,7,8,9] (.seq
      (.cond (.t 9)
      (.skip)
      (.exit 0))
      (.keep [0,1,7,8] (.seq
      (.block 1 (.seq
       (.region [⟨some 10,none,.mov (.t 8)⟩,
        ⟨some 5,none,.mov (.t 10)⟩] false [])
       (.keep [0,1,5,7,8] (.seq
        (.region [⟨some 11,none,.mov (.t 1)⟩,
         ⟨some 12,none,.mov (.t 0)⟩,
         ⟨some 13,none,.mov (.t 5)⟩,
         ⟨some 14,none,.iaddr 5 (.t 12) (.t 13)⟩,
         ⟨some 15,none,.load 5 true (.t 14)⟩,
         ⟨some 16,none,.callC [346] (.t 11) [.t 15]⟩] false [])
        (.keep [0,1,5,7,8,16] (.cond (.t 16)
        (.keep [5] (.seq
         (.region [⟨some 17,none,.mov (.t 5)⟩,
          ⟨some 4,none,.mov (.t 17)⟩] false [])
         (.ret)))
        (.skip)))))))
      (.keep [0,1,7,8] (.region [⟨some 18,none,.bin .add (.t 8) (.c (.d (.i .i64 1)))⟩,
       ⟨some 8,none,.mov (.t 18)⟩] false []))))))
def F349:SFn:=⟨2,true,false,[.tmp 4],
  .seq
   (.region [⟨some 4,none,.mov (.c (.d (.i .i64 0)))⟩] false [])
   (.keep [0,1] (.seq
   (.seq
    (.region [⟨some 6,none,.mov (.t 0)⟩,
     ⟨some 7,none,.len false (.t 6)⟩,
     ⟨some 8,none,.mov (.c (.d (.i .i64 0)))⟩] false [])
    (.keep [0,1,7,8] (.block 0 (.loop [0,1,7,8] false F349_b0))))
   (.keep [] (.seq
    (.region [⟨some 4,none,.mov (.c (.d (.i .i64 (-1))))⟩] false [])
    (.ret)))))⟩
end Go.Sh
namespace Go.Sh
def tabs:Nat→Option (List D)
  | 0=> some ([0x71,0x69,0x61,0x79,0x91,0x89,0x81].map fun n:Int=> .i .i64 n)
  | 1=> some ([0x72,0x6a,0x62,0x7a,0x73,0x6b,0x63,0x7b].map fun n:Int=> .i .i64 n)
  | 2=> some ([0x00,0x10,0x20,0x30,0x40,0x50,0x60,0x70,0x90,0xa0,0xb0,0xc0].map fun n:Int=> .i .i64 n)
  | 3=> some ([0x10,0x20,0x30,0x40,0x50,0x60,0x70,0xa0,0xb0,0xc0,0xd0].map fun n:Int=> .i .i64 n)
  | 4=> some ([0x00,0x40,0x50,0xa0,0x01,0x41,0x51,0xa1,0xe1,0xf1].map fun n:Int=> .i .i64 n)
  | _=> none
end Go.Sh
