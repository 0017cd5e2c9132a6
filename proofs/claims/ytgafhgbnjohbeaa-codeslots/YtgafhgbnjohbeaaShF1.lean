/- Shadow functions, written by tr.py. -/
import Derived.Test.YtgafhgbnjohbeaaSh24
namespace Go.Sh
def F5_spindlelaw3_CodeSlots_b0 : SCode :=
  .seq
                  (.seq
                    (.region [⟨some 13, none, .mov (.t 4)⟩,
                        ⟨some 14, none, .bin .leq (.t 13) (.c (.d (.i .i64 3)))⟩] false [])
                    (.cond (.t 14)
                      (.skip)
                      (.exit 0)))
                  (.seq
                    (.block 1 (.seq
                        (.region [⟨some 17, none, .mov (.t 0)⟩,
                            ⟨some 18, none, .mov (.t 4)⟩,
                            ⟨some 19, none, .call 2 [.t 17, .t 18]⟩,
                            ⟨some 5, none, .mov (.t 19)⟩] false [])
                        (.seq
                          (.region [⟨some 20, none, .mov (.t 3)⟩,
                              ⟨some 21, none, .mov (.t 5)⟩,
                              ⟨some 22, none, .cpy 5 (.t 20) (.t 21)⟩] false [])
                          (.seq
                            (.region [⟨some 23, none, .mov (.t 3)⟩,
                                ⟨some 24, none, .call 0 [.t 23]⟩,
                                ⟨some 25, none, .mov (.t 5)⟩,
                                ⟨some 26, none, .call 3 [.t 25]⟩,
                                ⟨some 27, none, .bin .neq (.t 24) (.t 26)⟩,
                                ⟨some 28, none, .mov (.t 27)⟩,
                                ⟨some 29, (some (5, false)), .mov (.t 3)⟩,
                                ⟨some 30, (some (5, false)), .mov (.t 5)⟩,
                                ⟨some 31, (some (5, false)), .call 4 [.t 29, .t 30]⟩,
                                ⟨some 32, (some (5, false)), .un .not (.t 31)⟩,
                                ⟨some 33, none, .pick (.t 28) (.c (.d (.b true))) (.t 32)⟩] false [])
                            (.cond (.t 33)
                              (.seq
                                (.region [⟨some 2, none, .mov (.c (.d (.b false)))⟩] false [])
                                (.ret))
                              (.skip))))))
                    (.region [⟨some 15, none, .mov (.t 4)⟩,
                        ⟨some 16, none, .bin .add (.t 15) (.c (.d (.i .i64 1)))⟩,
                        ⟨some 4, none, .mov (.t 16)⟩] false []))
/-- spindle/spindlelaw3.CodeSlots -/
def F5_spindlelaw3_CodeSlots : SFn := ⟨1, true, [.tmp 2],
  .seq
    (.region [⟨some 2, none, .mov (.c (.d (.b false)))⟩] false [])
    (.seq
      (.seq
        (.region [⟨some 6, none, .build [.i .i64 0, .i .i64 0, .i .i64 0, .i .i64 0, .i .i64 0] [(0, 1, .c (.d (.i .i64 149)))]⟩,
            ⟨some 7, none, .build [.i .i64 0, .i .i64 0, .i .i64 0, .i .i64 0, .i .i64 0] [(0, 1, .c (.d (.i .i64 24)))]⟩,
            ⟨some 8, none, .lits 2 [.i .i64 0, .i .i64 0, .i .i64 0, .i .i64 0, .i .i64 0] [(0, 5, .t 6), (5, 5, .t 7)]⟩,
            ⟨some 9, none, .call 0 [.t 8]⟩,
            ⟨some 10, none, .bin .neq (.t 9) (.c (.d (.i .i64 3)))⟩] false [])
        (.cond (.t 10)
          (.seq
            (.region [⟨some 2, none, .mov (.c (.d (.b false)))⟩] false [])
            (.ret))
          (.skip)))
      (.seq
        (.region [⟨some 11, none, .mov (.t 0)⟩,
            ⟨some 12, none, .call 1 [.t 11]⟩,
            ⟨some 3, none, .mov (.t 12)⟩] false [])
        (.seq
          (.seq
            (.region [⟨some 4, none, .mov (.c (.d (.i .i64 0)))⟩] false [])
            (.block 0 (.loop [0, 3, 4] false F5_spindlelaw3_CodeSlots_b0)))
          (.seq
            (.region [⟨some 2, none, .mov (.c (.d (.b true)))⟩] false [])
            (.ret)))))⟩

def F0_code_Slots_b0 : SCode :=
  .seq
                (.region [⟨some 11, none, .bin .lss (.t 10) (.t 9)⟩] false [])
                (.seq
                  (.cond (.t 11)
                    (.skip)
                    (.exit 0))
                  (.seq
                    (.block 1 (.seq
                        (.region [⟨some 12, none, .iaddr 5 (.t 8) (.t 10)⟩,
                            ⟨some 13, none, .load 5 true (.t 12)⟩,
                            ⟨some 5, none, .alloc [.i .i64 0, .i .i64 0, .i .i64 0, .i .i64 0, .i .i64 0]⟩,
                            ⟨none, none, .store 5 (.t 5) (.t 13)⟩] false [])
                        (.seq
                          (.region [⟨some 14, none, .faddr 0 (.t 5)⟩,
                              ⟨some 15, none, .load 1 false (.t 14)⟩,
                              ⟨some 16, none, .bin .eql (.t 15) (.c (.d (.i .i64 24)))⟩] false [])
                          (.cond (.t 16)
                            (.region [⟨some 17, none, .mov (.t 3)⟩,
                                ⟨some 18, none, .bin .add (.t 17) (.c (.d (.i .i64 1)))⟩,
                                ⟨some 3, none, .mov (.t 18)⟩] false [])
                            (.skip)))))
                    (.region [⟨some 19, none, .bin .add (.t 10) (.c (.d (.i .i64 1)))⟩,
                        ⟨some 10, none, .mov (.t 19)⟩] false [])))
/-- spindle/code.Slots -/
def F0_code_Slots : SFn := ⟨1, true, [.tmp 2],
  .seq
    (.region [⟨some 2, none, .mov (.c (.d (.i .i64 0)))⟩] false [])
    (.seq
      (.region [⟨some 6, none, .mov (.t 0)⟩,
          ⟨some 7, none, .len false (.t 6)⟩,
          ⟨some 3, none, .mov (.t 7)⟩] false [])
      (.seq
        (.seq
          (.region [⟨some 8, none, .mov (.t 0)⟩,
              ⟨some 9, none, .len false (.t 8)⟩,
              ⟨some 10, none, .mov (.c (.d (.i .i64 0)))⟩] false [])
          (.block 0 (.loop [3, 8, 9, 10] true F0_code_Slots_b0)))
        (.seq
          (.region [⟨some 20, none, .mov (.t 3)⟩,
              ⟨some 2, none, .mov (.t 20)⟩] false [])
          (.ret))))⟩

def F1_spindlelaw3_Lend_b0 : SCode :=
  .seq
                (.seq
                  (.region [⟨some 10, none, .mov (.t 4)⟩,
                      ⟨some 11, none, .mov (.t 3)⟩,
                      ⟨some 12, none, .len false (.t 11)⟩,
                      ⟨some 13, none, .bin .lss (.t 10) (.t 12)⟩] false [])
                  (.cond (.t 13)
                    (.skip)
                    (.exit 0)))
                (.seq
                  (.block 1 (.region [⟨some 16, none, .mov (.t 3)⟩,
                        ⟨some 17, none, .mov (.t 4)⟩,
                        ⟨some 18, none, .mov (.t 4)⟩,
                        ⟨some 19, none, .call 6 [.t 18]⟩,
                        ⟨some 20, none, .iaddr 5 (.t 16) (.t 17)⟩,
                        ⟨none, none, .store 5 (.t 20) (.t 19)⟩] false []))
                  (.region [⟨some 14, none, .mov (.t 4)⟩,
                      ⟨some 15, none, .bin .add (.t 14) (.c (.d (.i .i64 1)))⟩,
                      ⟨some 4, none, .mov (.t 15)⟩] false []))
/-- spindle/spindlelaw3.Lend -/
def F1_spindlelaw3_Lend : SFn := ⟨1, false, [.tmp 2],
  .seq
    (.region [⟨some 2, none, .mov (.c (.d (.sl 0 false [])))⟩] false [])
    (.seq
      (.region [⟨some 5, none, .mov (.t 0)⟩,
          ⟨some 6, none, .len false (.t 5)⟩,
          ⟨some 7, none, .bin .mul (.c (.d (.i .i64 2))) (.t 6)⟩,
          ⟨some 8, none, .bin .add (.t 7) (.c (.d (.i .i64 70)))⟩,
          ⟨some 9, none, .mkR 40 [.i .i64 0, .i .i64 0, .i .i64 0, .i .i64 0, .i .i64 0] (.t 8) (.t 8)⟩,
          ⟨some 3, none, .mov (.t 9)⟩] false [])
      (.seq
        (.seq
          (.region [⟨some 4, none, .mov (.c (.d (.i .i64 0)))⟩] false [])
          (.block 0 (.loop [0, 3, 4] false F1_spindlelaw3_Lend_b0)))
        (.seq
          (.region [⟨some 21, none, .mov (.t 3)⟩,
              ⟨some 22, none, .mov (.t 0)⟩,
              ⟨some 23, none, .cpy 5 (.t 21) (.t 22)⟩] false [])
          (.seq
            (.region [⟨some 24, none, .mov (.t 3)⟩,
                ⟨some 25, none, .mov (.t 0)⟩,
                ⟨some 26, none, .len false (.t 25)⟩,
                ⟨some 27, none, .slc 5 (.t 24) none (some (.t 26)) none⟩,
                ⟨some 2, none, .mov (.t 27)⟩] false [])
            (.ret)))))⟩

def F2_spindlelaw3_Turned_b0 : SCode :=
  .seq
                  (.seq
                    (.region [⟨some 22, none, .mov (.t 1)⟩,
                        ⟨some 23, none, .bin .eql (.t 22) (.c (.d (.i .i64 2)))⟩,
                        ⟨some 24, none, .mov (.t 23)⟩,
                        ⟨some 25, (some (2, true)), .mov (.t 6)⟩,
                        ⟨some 26, (some (2, true)), .mov (.t 5)⟩,
                        ⟨some 27, (some (2, true)), .len false (.t 26)⟩,
                        ⟨some 28, (some (2, true)), .bin .lss (.t 25) (.t 27)⟩,
                        ⟨some 29, none, .pick (.t 24) (.t 28) (.c (.d (.b false)))⟩] false [])
                    (.cond (.t 29)
                      (.skip)
                      (.exit 0)))
                  (.seq
                    (.block 1 (.region [⟨some 32, none, .mov (.t 5)⟩,
                          ⟨some 33, none, .mov (.t 6)⟩,
                          ⟨some 34, none, .mov (.t 0)⟩,
                          ⟨some 35, none, .mov (.t 0)⟩,
                          ⟨some 36, none, .len false (.t 35)⟩,
                          ⟨some 37, none, .bin .sub (.t 36) (.c (.d (.i .i64 1)))⟩,
                          ⟨some 38, none, .mov (.t 6)⟩,
                          ⟨some 39, none, .bin .sub (.t 37) (.t 38)⟩,
                          ⟨some 40, none, .iaddr 5 (.t 34) (.t 39)⟩,
                          ⟨some 41, none, .load 5 true (.t 40)⟩,
                          ⟨some 42, none, .iaddr 5 (.t 32) (.t 33)⟩,
                          ⟨none, none, .store 5 (.t 42) (.t 41)⟩] false []))
                    (.region [⟨some 30, none, .mov (.t 6)⟩,
                        ⟨some 31, none, .bin .add (.t 30) (.c (.d (.i .i64 1)))⟩,
                        ⟨some 6, none, .mov (.t 31)⟩] false []))
/-- spindle/spindlelaw3.Turned -/
def F2_spindlelaw3_Turned : SFn := ⟨2, true, [.tmp 4],
  .seq
    (.region [⟨some 4, none, .mov (.c (.d (.sl 0 false [])))⟩] false [])
    (.seq
      (.region [⟨some 7, none, .mov (.t 0)⟩,
          ⟨some 8, none, .call 7 [.t 7]⟩,
          ⟨some 5, none, .mov (.t 8)⟩] false [])
      (.seq
        (.seq
          (.region [⟨some 9, none, .mov (.t 1)⟩,
              ⟨some 10, none, .bin .eql (.t 9) (.c (.d (.i .i64 1)))⟩,
              ⟨some 11, none, .mov (.t 10)⟩,
              ⟨some 12, (some (2, true)), .mov (.t 5)⟩,
              ⟨some 13, (some (2, true)), .len false (.t 12)⟩,
              ⟨some 14, (some (2, true)), .bin .gtr (.t 13) (.c (.d (.i .i64 0)))⟩,
              ⟨some 15, none, .pick (.t 11) (.t 14) (.c (.d (.b false)))⟩] false [])
          (.cond (.t 15)
            (.region [⟨some 16, none, .mov (.t 5)⟩,
                ⟨some 17, none, .mov (.t 5)⟩,
                ⟨some 18, none, .len false (.t 17)⟩,
                ⟨some 19, none, .bin .quo (.t 18) (.c (.d (.i .i64 2)))⟩,
                ⟨some 20, none, .build [.i .i64 0, .i .i64 0, .i .i64 0, .i .i64 0, .i .i64 0] [(0, 1, .c (.d (.i .i64 149)))]⟩,
                ⟨some 21, none, .iaddr 5 (.t 16) (.t 19)⟩,
                ⟨none, none, .store 5 (.t 21) (.t 20)⟩] false [])
            (.skip)))
        (.seq
          (.seq
            (.region [⟨some 6, none, .mov (.c (.d (.i .i64 0)))⟩] false [])
            (.block 0 (.loop [0, 1, 5, 6] false F2_spindlelaw3_Turned_b0)))
          (.seq
            (.region [⟨some 43, none, .mov (.t 5)⟩,
                ⟨some 4, none, .mov (.t 43)⟩] false [])
            (.ret)))))⟩

def F3_spindleref3_Slots_b0 : SCode :=
  .seq
                (.seq
                  (.region [⟨some 5, none, .mov (.t 4)⟩,
                      ⟨some 6, none, .mov (.t 0)⟩,
                      ⟨some 7, none, .len false (.t 6)⟩,
                      ⟨some 8, none, .bin .lss (.t 5) (.t 7)⟩] false [])
                  (.cond (.t 8)
                    (.skip)
                    (.exit 0)))
                (.seq
                  (.block 1 (.seq
                      (.region [⟨some 11, none, .mov (.t 3)⟩,
                          ⟨some 12, none, .bin .add (.t 11) (.c (.d (.i .i64 1)))⟩,
                          ⟨some 3, none, .mov (.t 12)⟩] false [])
                      (.seq
                        (.region [⟨some 13, none, .mov (.t 0)⟩,
                            ⟨some 14, none, .mov (.t 4)⟩,
                            ⟨some 15, none, .iaddr 5 (.t 13) (.t 14)⟩,
                            ⟨some 16, none, .faddr 0 (.t 15)⟩,
                            ⟨some 17, none, .load 1 false (.t 16)⟩,
                            ⟨some 18, none, .call 8 [.t 17]⟩] false [])
                        (.cond (.t 18)
                          (.region [⟨some 19, none, .mov (.t 3)⟩,
                              ⟨some 20, none, .bin .add (.t 19) (.c (.d (.i .i64 1)))⟩,
                              ⟨some 3, none, .mov (.t 20)⟩] false [])
                          (.skip)))))
                  (.region [⟨some 9, none, .mov (.t 4)⟩,
                      ⟨some 10, none, .bin .add (.t 9) (.c (.d (.i .i64 1)))⟩,
                      ⟨some 4, none, .mov (.t 10)⟩] false []))
/-- spindle/spindleref3.Slots -/
def F3_spindleref3_Slots : SFn := ⟨1, true, [.tmp 2],
  .seq
    (.region [⟨some 2, none, .mov (.c (.d (.i .i64 0)))⟩] false [])
    (.seq
      (.region [⟨some 3, none, .mov (.c (.d (.i .i64 0)))⟩] false [])
      (.seq
        (.seq
          (.region [⟨some 4, none, .mov (.c (.d (.i .i64 0)))⟩] false [])
          (.block 0 (.loop [0, 3, 4] false F3_spindleref3_Slots_b0)))
        (.seq
          (.region [⟨some 21, none, .mov (.t 3)⟩,
              ⟨some 2, none, .mov (.t 21)⟩] false [])
          (.ret))))⟩

def F4_spindlelaw3_Back_b0 : SCode :=
  .seq
                (.seq
                  (.region [⟨some 15, none, .mov (.t 6)⟩,
                      ⟨some 16, none, .mov (.t 5)⟩,
                      ⟨some 17, none, .len false (.t 16)⟩,
                      ⟨some 18, none, .bin .lss (.t 15) (.t 17)⟩] false [])
                  (.cond (.t 18)
                    (.skip)
                    (.exit 0)))
                (.seq
                  (.block 1 (.seq
                      (.region [⟨some 21, none, .mov (.t 5)⟩,
                          ⟨some 22, none, .mov (.t 6)⟩,
                          ⟨some 23, none, .iaddr 5 (.t 21) (.t 22)⟩,
                          ⟨some 24, none, .load 5 true (.t 23)⟩,
                          ⟨some 25, none, .mov (.t 6)⟩,
                          ⟨some 26, none, .call 6 [.t 25]⟩,
                          ⟨some 27, none, .eqv true [9, 0, 0, 0, 0, 0] (.t 24) (.t 26)⟩] true [0, 0, 3, 7, 0, 16, 63])
                      (.cond (.t 27)
                        (.seq
                          (.region [⟨some 4, none, .mov (.c (.d (.b false)))⟩] false [])
                          (.ret))
                        (.skip))))
                  (.region [⟨some 19, none, .mov (.t 6)⟩,
                      ⟨some 20, none, .bin .add (.t 19) (.c (.d (.i .i64 1)))⟩,
                      ⟨some 6, none, .mov (.t 20)⟩] false []))
/-- spindle/spindlelaw3.Back -/
def F4_spindlelaw3_Back : SFn := ⟨2, true, [.tmp 4],
  .seq
    (.region [⟨some 4, none, .mov (.c (.d (.b false)))⟩] false [])
    (.seq
      (.region [⟨some 7, none, .mov (.t 0)⟩,
          ⟨some 8, none, .mov (.t 1)⟩,
          ⟨some 9, none, .len false (.t 8)⟩,
          ⟨some 10, none, .bin .mul (.c (.d (.i .i64 2))) (.t 9)⟩,
          ⟨some 11, none, .bin .add (.t 10) (.c (.d (.i .i64 70)))⟩,
          ⟨some 12, none, .slc 5 (.t 7) none (some (.t 11)) none⟩,
          ⟨some 5, none, .mov (.t 12)⟩] false [])
      (.seq
        (.seq
          (.region [⟨some 13, none, .mov (.t 1)⟩,
              ⟨some 14, none, .len false (.t 13)⟩,
              ⟨some 6, none, .mov (.t 14)⟩] false [])
          (.block 0 (.loop [0, 1, 5, 6] false F4_spindlelaw3_Back_b0)))
        (.seq
          (.region [⟨some 28, none, .mov (.t 0)⟩,
              ⟨some 29, none, .mov (.t 1)⟩,
              ⟨some 30, none, .call 9 [.t 28, .t 29]⟩,
              ⟨some 4, none, .mov (.t 30)⟩] false [])
          (.ret))))⟩


/-- spindle/spindlelaw3.behind -/
def F6_spindlelaw3_behind : SFn := ⟨1, true, [.cell 2 5 true],
  .seq
    (.region [⟨some 2, none, .alloc [.i .i64 0, .i .i64 0, .i .i64 0, .i .i64 0, .i .i64 0]⟩] false [])
    (.seq
      (.region [⟨some 3, none, .mov (.t 0)⟩,
          ⟨some 4, none, .bin .sub (.c (.d (.i .i64 (-7)))) (.t 3)⟩,
          ⟨some 5, none, .mov (.t 0)⟩,
          ⟨some 6, none, .build [.i .i64 0, .i .i64 0, .i .i64 0, .i .i64 0, .i .i64 0] [(0, 1, .c (.d (.i .i64 149))), (1, 1, .t 4), (4, 1, .t 5)]⟩,
          ⟨none, none, .store 5 (.t 2) (.t 6)⟩] false [])
      (.ret))⟩


/-- spindle/spindlelaw0.CopyInsns -/
def F7_spindlelaw0_CopyInsns : SFn := ⟨1, false, [.tmp 2],
  .seq
    (.region [⟨some 2, none, .mov (.c (.d (.sl 0 false [])))⟩] false [])
    (.seq
      (.region [⟨some 3, none, .litsR 0 [.i .i64 0, .i .i64 0, .i .i64 0, .i .i64 0, .i .i64 0] []⟩,
          ⟨some 4, none, .mov (.t 0)⟩,
          ⟨some 5, none, .appR 5 40 [.i .i64 0, .i .i64 0, .i .i64 0, .i .i64 0, .i .i64 0] (.t 3) (.t 4)⟩,
          ⟨some 2, none, .mov (.t 5)⟩] false [])
      (.ret))⟩


/-- spindle/spindleref3.wide -/
def F8_spindleref3_wide : SFn := ⟨1, true, [.tmp 2],
  .seq
    (.region [⟨some 2, none, .mov (.c (.d (.b false)))⟩] false [])
    (.seq
      (.region [⟨some 3, none, .mov (.t 0)⟩,
          ⟨some 4, none, .bin .eql (.t 3) (.c (.d (.i .i64 24)))⟩,
          ⟨some 2, none, .mov (.t 4)⟩] false [])
      (.ret))⟩

def F9_spindlelaw0_SameInsns_b0 : SCode :=
  .seq
                (.seq
                  (.region [⟨some 11, none, .mov (.t 5)⟩,
                      ⟨some 12, none, .mov (.t 0)⟩,
                      ⟨some 13, none, .len false (.t 12)⟩,
                      ⟨some 14, none, .bin .lss (.t 11) (.t 13)⟩] false [])
                  (.cond (.t 14)
                    (.skip)
                    (.exit 0)))
                (.seq
                  (.block 1 (.seq
                      (.region [⟨some 17, none, .mov (.t 0)⟩,
                          ⟨some 18, none, .mov (.t 5)⟩,
                          ⟨some 19, none, .iaddr 5 (.t 17) (.t 18)⟩,
                          ⟨some 20, none, .load 5 true (.t 19)⟩,
                          ⟨some 21, none, .mov (.t 1)⟩,
                          ⟨some 22, none, .mov (.t 5)⟩,
                          ⟨some 23, none, .iaddr 5 (.t 21) (.t 22)⟩,
                          ⟨some 24, none, .load 5 true (.t 23)⟩,
                          ⟨some 25, none, .eqv true [9, 0, 0, 0, 0, 0] (.t 20) (.t 24)⟩] true [0, 0, 3, 7, 0, 0, 48, 112, 255])
                      (.cond (.t 25)
                        (.seq
                          (.region [⟨some 4, none, .mov (.c (.d (.b false)))⟩] false [])
                          (.ret))
                        (.skip))))
                  (.region [⟨some 15, none, .mov (.t 5)⟩,
                      ⟨some 16, none, .bin .add (.t 15) (.c (.d (.i .i64 1)))⟩,
                      ⟨some 5, none, .mov (.t 16)⟩] false []))
/-- spindle/spindlelaw0.SameInsns -/
def F9_spindlelaw0_SameInsns : SFn := ⟨2, true, [.tmp 4],
  .seq
    (.region [⟨some 4, none, .mov (.c (.d (.b false)))⟩] false [])
    (.seq
      (.seq
        (.region [⟨some 6, none, .mov (.t 0)⟩,
            ⟨some 7, none, .len false (.t 6)⟩,
            ⟨some 8, none, .mov (.t 1)⟩,
            ⟨some 9, none, .len false (.t 8)⟩,
            ⟨some 10, none, .bin .neq (.t 7) (.t 9)⟩] false [])
        (.cond (.t 10)
          (.seq
            (.region [⟨some 4, none, .mov (.c (.d (.b false)))⟩] false [])
            (.ret))
          (.skip)))
      (.seq
        (.seq
          (.region [⟨some 5, none, .mov (.c (.d (.i .i64 0)))⟩] false [])
          (.block 0 (.loop [0, 1, 5] false F9_spindlelaw0_SameInsns_b0)))
        (.seq
          (.region [⟨some 4, none, .mov (.c (.d (.b true)))⟩] false [])
          (.ret))))⟩

end Go.Sh
