/- Shadow functions, written by tr.py. -/
import Derived.Test.YtgafhgbnjohbeaaDoorSh24
namespace Go.Sh
def F13_spindlelaw2_IsaInfo_b0 : SCode :=
  .seq
              (.seq
                (.region [⟨some 14, none, .mov (.t 3)⟩,
                    ⟨some 15, none, .mov (.t 0)⟩,
                    ⟨some 16, none, .len false (.t 15)⟩,
                    ⟨some 17, none, .bin .lss (.t 14) (.t 16)⟩] false [])
                (.cond (.t 17)
                  (.skip)
                  (.exit 0)))
              (.seq
                (.block 1 (.seq
                    (.region [⟨some 21, none, .mov (.t 0)⟩,
                        ⟨some 22, none, .mov (.t 3)⟩,
                        ⟨some 23, none, .iaddr 1 (.t 21) (.t 22)⟩,
                        ⟨some 24, none, .load 1 false (.t 23)⟩,
                        ⟨some 25, none, .call 10 [.t 24]⟩,
                        ⟨some 20, none, .mov (.t 25)⟩,
                        ⟨some 26, none, .extract 0 (.t 20)⟩,
                        ⟨some 27, none, .extract 1 (.t 20)⟩,
                        ⟨some 4, none, .alloc [.i .i64 0, .i .i64 0, .b false, .b false, .b false, .b false]⟩,
                        ⟨none, none, .store 6 (.t 4) (.t 26)⟩,
                        ⟨some 5, none, .mov (.t 27)⟩] false [])
                    (.seq
                      (.region [⟨some 29, none, .mov (.t 0)⟩,
                          ⟨some 30, none, .mov (.t 3)⟩,
                          ⟨some 31, none, .iaddr 1 (.t 29) (.t 30)⟩,
                          ⟨some 32, none, .load 1 false (.t 31)⟩,
                          ⟨some 33, none, .call 11 [.t 32]⟩,
                          ⟨some 28, none, .mov (.t 33)⟩,
                          ⟨some 34, none, .extract 0 (.t 28)⟩,
                          ⟨some 35, none, .extract 1 (.t 28)⟩,
                          ⟨some 6, none, .alloc [.i .i64 0, .i .i64 0, .b false, .b false, .b false, .b false]⟩,
                          ⟨none, none, .store 6 (.t 6) (.t 34)⟩,
                          ⟨some 7, none, .mov (.t 35)⟩] false [])
                      (.seq
                        (.region [⟨some 36, none, .load 6 true (.t 6)⟩,
                            ⟨some 37, none, .load 6 true (.t 4)⟩,
                            ⟨some 38, none, .eqv true [9, 0, 0, 1, 1, 1, 1] (.t 36) (.t 37)⟩,
                            ⟨some 39, none, .mov (.t 38)⟩,
                            ⟨some 40, (some (3, false)), .mov (.t 7)⟩,
                            ⟨some 41, (some (3, false)), .call 12 [.t 40]⟩,
                            ⟨some 42, (some (3, false)), .mov (.t 5)⟩,
                            ⟨some 43, (some (3, false)), .bin .neq (.t 41) (.t 42)⟩,
                            ⟨some 44, none, .pick (.t 39) (.c (.d (.b true))) (.t 43)⟩] false [])
                        (.cond (.t 44)
                          (.seq
                            (.region [⟨some 2, none, .mov (.c (.d (.b false)))⟩] false [])
                            (.ret))
                          (.skip))))))
                (.region [⟨some 18, none, .mov (.t 3)⟩,
                    ⟨some 19, none, .bin .add (.t 18) (.c (.d (.i .i64 1)))⟩,
                    ⟨some 3, none, .mov (.t 19)⟩] false []))
def F13_spindlelaw2_IsaInfo_b1 : SCode :=
  .seq
                    (.seq
                      (.region [⟨some 46, none, .mov (.t 10)⟩,
                          ⟨some 47, none, .bin .lss (.t 46) (.c (.d (.i .i64 256)))⟩] false [])
                      (.cond (.t 47)
                        (.skip)
                        (.exit 2)))
                    (.seq
                      (.block 3 (.seq
                          (.region [⟨some 51, none, .mov (.t 10)⟩,
                              ⟨some 52, none, .call 11 [.t 51]⟩,
                              ⟨some 50, none, .mov (.t 52)⟩,
                              ⟨some 53, none, .extract 0 (.t 50)⟩,
                              ⟨some 54, none, .extract 1 (.t 50)⟩,
                              ⟨some 11, none, .alloc [.i .i64 0, .i .i64 0, .b false, .b false, .b false, .b false]⟩,
                              ⟨none, none, .store 6 (.t 11) (.t 53)⟩,
                              ⟨some 12, none, .mov (.t 54)⟩] false [])
                          (.seq
                            (.seq
                              (.region [⟨some 55, none, .mov (.t 12)⟩,
                                  ⟨some 56, none, .bin .neq (.t 55) (.c (.d (.i .i64 0)))⟩] false [])
                              (.cond (.t 56)
                                (.exit 3)
                                (.skip)))
                            (.seq
                              (.seq
                                (.region [⟨some 57, none, .mov (.t 9)⟩,
                                    ⟨some 58, none, .mov (.t 8)⟩,
                                    ⟨some 59, none, .len false (.t 58)⟩,
                                    ⟨some 60, none, .bin .geq (.t 57) (.t 59)⟩,
                                    ⟨some 61, none, .mov (.t 60)⟩,
                                    ⟨some 62, (some (4, false)), .mov (.t 8)⟩,
                                    ⟨some 63, (some (4, false)), .mov (.t 9)⟩,
                                    ⟨some 64, (some (4, false)), .iaddr 1 (.t 62) (.t 63)⟩,
                                    ⟨some 65, (some (4, false)), .load 1 false (.t 64)⟩,
                                    ⟨some 66, (some (4, false)), .mov (.t 10)⟩,
                                    ⟨some 67, (some (4, false)), .bin .neq (.t 65) (.t 66)⟩,
                                    ⟨some 68, none, .pick (.t 61) (.c (.d (.b true))) (.t 67)⟩] false [])
                                (.cond (.t 68)
                                  (.seq
                                    (.region [⟨some 2, none, .mov (.c (.d (.b false)))⟩] false [])
                                    (.ret))
                                  (.skip)))
                              (.region [⟨some 69, none, .mov (.t 9)⟩,
                                  ⟨some 70, none, .bin .add (.t 69) (.c (.d (.i .i64 1)))⟩,
                                  ⟨some 9, none, .mov (.t 70)⟩] false [])))))
                      (.region [⟨some 48, none, .mov (.t 10)⟩,
                          ⟨some 49, none, .bin .add (.t 48) (.c (.d (.i .i64 1)))⟩,
                          ⟨some 10, none, .mov (.t 49)⟩] false []))
/-- spindle/spindlelaw2.IsaInfo -/
def F13_spindlelaw2_IsaInfo : SFn := ⟨1, true, [.tmp 2],
  .seq
    (.region [⟨some 2, none, .mov (.c (.d (.b false)))⟩] false [])
    (.seq
      (.seq
        (.region [⟨some 3, none, .mov (.c (.d (.i .i64 0)))⟩] false [])
        (.block 0 (.loop [0, 3] true F13_spindlelaw2_IsaInfo_b0)))
      (.seq
        (.region [⟨some 45, none, .call 14 []⟩,
            ⟨some 8, none, .mov (.t 45)⟩] false [])
        (.seq
          (.region [⟨some 9, none, .mov (.c (.d (.i .i64 0)))⟩] false [])
          (.seq
            (.seq
              (.region [⟨some 10, none, .mov (.c (.d (.i .i64 0)))⟩] false [])
              (.block 2 (.loop [8, 9, 10] true F13_spindlelaw2_IsaInfo_b1)))
            (.seq
              (.region [⟨some 71, none, .call 15 []⟩,
                  ⟨some 13, none, .mov (.t 71)⟩] false [])
              (.seq
                (.region [⟨some 72, none, .mov (.t 9)⟩,
                    ⟨some 73, none, .mov (.t 8)⟩,
                    ⟨some 74, none, .len false (.t 73)⟩,
                    ⟨some 75, none, .bin .eql (.t 72) (.t 74)⟩,
                    ⟨some 76, none, .mov (.t 75)⟩,
                    ⟨some 77, (some (4, true)), .mov (.t 8)⟩,
                    ⟨some 78, (some (4, true)), .mov (.t 13)⟩,
                    ⟨some 79, (some (4, true)), .call 16 [.t 77, .t 78]⟩,
                    ⟨some 80, none, .pick (.t 76) (.t 79) (.c (.d (.b false)))⟩,
                    ⟨some 81, none, .mov (.t 80)⟩,
                    ⟨some 82, (some (9, true)), .mov (.t 8)⟩,
                    ⟨some 83, (some (9, true)), .len false (.t 82)⟩,
                    ⟨some 84, (some (9, true)), .bin .eql (.t 83) (.c (.d (.i .i64 119)))⟩,
                    ⟨some 85, none, .pick (.t 81) (.t 84) (.c (.d (.b false)))⟩,
                    ⟨some 2, none, .mov (.t 85)⟩] false [])
                (.ret)))))))⟩


/-- spindle/spindleref2.Info -/
def F10_spindleref2_Info : SFn := ⟨1, true, [.cell 2 6 true, .tmp 3],
  .seq
    (.region [⟨some 2, none, .alloc [.i .i64 0, .i .i64 0, .b false, .b false, .b false, .b false]⟩,
        ⟨some 3, none, .mov (.c (.d (.i .i64 0)))⟩] false [])
    (.seq
      (.region [⟨some 6, none, .mov (.t 0)⟩,
          ⟨some 7, none, .call 17 [.t 6]⟩,
          ⟨some 4, none, .mov (.t 7)⟩] false [])
      (.seq
        (.seq
          (.region [⟨some 8, none, .mov (.t 4)⟩,
              ⟨some 9, none, .len false (.t 8)⟩,
              ⟨some 10, none, .bin .eql (.t 9) (.c (.d (.i .i64 0)))⟩] false [])
          (.cond (.t 10)
            (.seq
              (.region [⟨some 11, none, .build [.i .i64 0, .i .i64 0, .b false, .b false, .b false, .b false] []⟩,
                  ⟨none, none, .store 6 (.t 2) (.t 11)⟩,
                  ⟨some 3, none, .mov (.c (.d (.i .i64 20)))⟩] false [])
              (.ret))
            (.skip)))
        (.seq
          (.region [⟨some 12, none, .mov (.t 4)⟩,
              ⟨some 13, none, .iaddr 10 (.t 12) (.c (.d (.i .i64 0)))⟩,
              ⟨some 14, none, .load 10 true (.t 13)⟩,
              ⟨some 5, none, .alloc [.i .i64 0, .i .i64 0, .b false, .b false, .b false, .b false, .b false, .i .i64 0, .i .i64 0, .sl 0 false []]⟩,
              ⟨none, none, .store 10 (.t 5) (.t 14)⟩] false [])
          (.seq
            (.region [⟨some 15, none, .faddr 0 (.t 5)⟩,
                ⟨some 16, none, .load 1 false (.t 15)⟩,
                ⟨some 17, none, .faddr 1 (.t 5)⟩,
                ⟨some 18, none, .load 1 false (.t 17)⟩,
                ⟨some 19, none, .faddr 2 (.t 5)⟩,
                ⟨some 20, none, .load 1 false (.t 19)⟩,
                ⟨some 21, none, .faddr 3 (.t 5)⟩,
                ⟨some 22, none, .load 1 false (.t 21)⟩,
                ⟨some 23, none, .faddr 4 (.t 5)⟩,
                ⟨some 24, none, .load 1 false (.t 23)⟩,
                ⟨some 25, none, .faddr 5 (.t 5)⟩,
                ⟨some 26, none, .load 1 false (.t 25)⟩,
                ⟨some 27, none, .build [.i .i64 0, .i .i64 0, .b false, .b false, .b false, .b false] [(0, 1, .t 16), (1, 1, .t 18), (2, 1, .t 20), (3, 1, .t 22), (4, 1, .t 24), (5, 1, .t 26)]⟩,
                ⟨none, none, .store 6 (.t 2) (.t 27)⟩,
                ⟨some 3, none, .mov (.c (.d (.i .i64 0)))⟩] false [])
            (.ret)))))⟩


/-- spindle/isa.Info -/
def F11_isa_Info : SFn := ⟨1, true, [.cell 2 6 true, .tmp 3],
  .seq
    (.region [⟨some 2, none, .alloc [.i .i64 0, .i .i64 0, .b false, .b false, .b false, .b false]⟩,
        ⟨some 3, none, .mov (.c (.d (.i .i64 0)))⟩] false [])
    (.seq
      (.region [⟨some 6, none, .mov (.t 0)⟩,
          ⟨some 7, none, .call 18 [.t 6]⟩,
          ⟨some 8, none, .build [.i .i64 0, .i .i64 0, .b false, .b false, .b false, .b false] [(0, 1, .t 7), (1, 1, .c (.d (.i .i64 1)))]⟩,
          ⟨some 4, none, .alloc [.i .i64 0, .i .i64 0, .b false, .b false, .b false, .b false]⟩,
          ⟨none, none, .store 6 (.t 4) (.t 8)⟩] false [])
      (.seq
        (.seq
          (.region [⟨some 9, none, .faddr 0 (.t 4)⟩,
              ⟨some 10, none, .load 1 false (.t 9)⟩] false [])
          (.block 0 (.seq
              (.block 10 (.seq
                  (.block 9 (.seq
                      (.block 8 (.seq
                          (.block 7 (.seq
                              (.block 6 (.seq
                                  (.block 5 (.seq
                                      (.block 4 (.seq
                                          (.block 3 (.seq
                                              (.block 2 (.seq
                                                  (.block 1 (.seq
                                                      (.seq
                                                        (.seq
                                                          (.region [⟨some 12, none, .bin .eql (.t 10) (.c (.d (.i .i64 0)))⟩,
                                                              ⟨some 11, none, .mov (.t 12)⟩] false [])
                                                          (.cond (.t 11)
                                                            (.exit 1)
                                                            (.skip)))
                                                        (.seq
                                                          (.seq
                                                            (.region [⟨some 14, none, .bin .eql (.t 10) (.c (.d (.i .i64 3)))⟩,
                                                                ⟨some 13, none, .mov (.t 14)⟩] false [])
                                                            (.cond (.t 13)
                                                              (.exit 2)
                                                              (.skip)))
                                                          (.seq
                                                            (.seq
                                                              (.region [⟨some 16, none, .bin .eql (.t 10) (.c (.d (.i .i64 8)))⟩,
                                                                  ⟨some 15, none, .mov (.t 16)⟩] false [])
                                                              (.cond (.t 15)
                                                                (.exit 3)
                                                                (.skip)))
                                                            (.seq
                                                              (.seq
                                                                (.region [⟨some 18, none, .bin .eql (.t 10) (.c (.d (.i .i64 6)))⟩,
                                                                    ⟨some 17, none, .mov (.t 18)⟩] false [])
                                                                (.cond (.t 17)
                                                                  (.exit 4)
                                                                  (.skip)))
                                                              (.seq
                                                                (.seq
                                                                  (.region [⟨some 20, none, .bin .eql (.t 10) (.c (.d (.i .i64 4)))⟩,
                                                                      ⟨some 19, none, .mov (.t 20)⟩] false [])
                                                                  (.cond (.t 19)
                                                                    (.exit 5)
                                                                    (.skip)))
                                                                (.seq
                                                                  (.seq
                                                                    (.region [⟨some 22, none, .bin .eql (.t 10) (.c (.d (.i .i64 5)))⟩,
                                                                        ⟨some 21, none, .mov (.t 22)⟩] false [])
                                                                    (.cond (.t 21)
                                                                      (.exit 6)
                                                                      (.skip)))
                                                                  (.seq
                                                                    (.seq
                                                                      (.region [⟨some 24, none, .bin .eql (.t 10) (.c (.d (.i .i64 10)))⟩,
                                                                          ⟨some 23, none, .mov (.t 24)⟩] false [])
                                                                      (.cond (.t 23)
                                                                        (.exit 7)
                                                                        (.skip)))
                                                                    (.seq
                                                                      (.seq
                                                                        (.region [⟨some 26, none, .bin .eql (.t 10) (.c (.d (.i .i64 2)))⟩,
                                                                            ⟨some 25, none, .mov (.t 26)⟩] false [])
                                                                        (.cond (.t 25)
                                                                          (.exit 8)
                                                                          (.skip)))
                                                                      (.seq
                                                                        (.seq
                                                                          (.region [⟨some 28, none, .bin .eql (.t 10) (.c (.d (.i .i64 9)))⟩,
                                                                              ⟨some 27, none, .mov (.t 28)⟩] false [])
                                                                          (.cond (.t 27)
                                                                            (.exit 9)
                                                                            (.skip)))
                                                                        (.seq
                                                                          (.region [⟨some 30, none, .bin .eql (.t 10) (.c (.d (.i .i64 7)))⟩,
                                                                              ⟨some 29, none, .mov (.t 30)⟩] false [])
                                                                          (.cond (.t 29)
                                                                            (.exit 10)
                                                                            (.skip))))))))))))
                                                      (.exit 0)))
                                                  (.seq
                                                    (.seq
                                                      (.region [⟨some 31, none, .build [.i .i64 0, .i .i64 0, .b false, .b false, .b false, .b false] []⟩,
                                                          ⟨none, none, .store 6 (.t 2) (.t 31)⟩,
                                                          ⟨some 3, none, .mov (.c (.d (.i .i64 20)))⟩] false [])
                                                      (.ret))
                                                    (.exit 0))))
                                              (.seq
                                                (.seq
                                                  (.seq
                                                    (.region [⟨some 32, none, .mov (.t 0)⟩,
                                                        ⟨some 33, none, .bin .and (.t 32) (.c (.d (.i .i64 240)))⟩,
                                                        ⟨some 5, none, .mov (.t 33)⟩] false [])
                                                    (.seq
                                                      (.region [⟨some 34, none, .mov (.t 5)⟩,
                                                          ⟨some 35, none, .bin .eql (.t 34) (.c (.d (.i .i64 32)))⟩,
                                                          ⟨some 36, none, .mov (.t 35)⟩,
                                                          ⟨some 37, (some (2, false)), .mov (.t 5)⟩,
                                                          ⟨some 38, (some (2, false)), .bin .eql (.t 37) (.c (.d (.i .i64 48)))⟩,
                                                          ⟨some 39, none, .pick (.t 36) (.c (.d (.b true))) (.t 38)⟩,
                                                          ⟨some 40, none, .mov (.t 39)⟩,
                                                          ⟨some 41, (some (6, false)), .mov (.t 5)⟩,
                                                          ⟨some 42, (some (6, false)), .bin .eql (.t 41) (.c (.d (.i .i64 144)))⟩,
                                                          ⟨some 43, none, .pick (.t 40) (.c (.d (.b true))) (.t 42)⟩] false [])
                                                      (.cond (.t 43)
                                                        (.region [⟨some 44, none, .faddr 1 (.t 4)⟩,
                                                            ⟨none, none, .store 1 (.t 44) (.c (.d (.i .i64 2)))⟩] false [])
                                                        (.skip))))
                                                  (.region [⟨some 45, none, .mov (.t 0)⟩,
                                                      ⟨some 46, none, .bin .and (.t 45) (.c (.d (.i .i64 8)))⟩,
                                                      ⟨some 47, none, .bin .neq (.t 46) (.c (.d (.i .i64 0)))⟩,
                                                      ⟨some 48, none, .mov (.t 0)⟩,
                                                      ⟨some 49, none, .bin .and (.t 48) (.c (.d (.i .i64 8)))⟩,
                                                      ⟨some 50, none, .bin .eql (.t 49) (.c (.d (.i .i64 0)))⟩,
                                                      ⟨some 51, none, .faddr 2 (.t 4)⟩,
                                                      ⟨none, none, .store 1 (.t 51) (.c (.d (.b true)))⟩,
                                                      ⟨some 52, none, .faddr 3 (.t 4)⟩,
                                                      ⟨none, none, .store 1 (.t 52) (.t 47)⟩,
                                                      ⟨some 53, none, .faddr 5 (.t 4)⟩,
                                                      ⟨none, none, .store 1 (.t 53) (.t 50)⟩] false []))
                                                (.exit 0))))
                                          (.seq
                                            (.region [⟨some 54, none, .mov (.t 0)⟩,
                                                ⟨some 55, none, .bin .and (.t 54) (.c (.d (.i .i64 8)))⟩,
                                                ⟨some 56, none, .bin .neq (.t 55) (.c (.d (.i .i64 0)))⟩,
                                                ⟨some 57, none, .mov (.t 0)⟩,
                                                ⟨some 58, none, .bin .and (.t 57) (.c (.d (.i .i64 8)))⟩,
                                                ⟨some 59, none, .bin .eql (.t 58) (.c (.d (.i .i64 0)))⟩,
                                                ⟨some 60, none, .faddr 2 (.t 4)⟩,
                                                ⟨none, none, .store 1 (.t 60) (.c (.d (.b true)))⟩,
                                                ⟨some 61, none, .faddr 4 (.t 4)⟩,
                                                ⟨none, none, .store 1 (.t 61) (.c (.d (.b true)))⟩,
                                                ⟨some 62, none, .faddr 3 (.t 4)⟩,
                                                ⟨none, none, .store 1 (.t 62) (.t 56)⟩,
                                                ⟨some 63, none, .faddr 5 (.t 4)⟩,
                                                ⟨none, none, .store 1 (.t 63) (.t 59)⟩] false [])
                                            (.exit 0))))
                                      (.region [⟨some 64, none, .faddr 1 (.t 4)⟩,
                                          ⟨none, none, .store 1 (.t 64) (.c (.d (.i .i64 3)))⟩] false [])))
                                  (.seq
                                    (.region [⟨some 65, none, .faddr 2 (.t 4)⟩,
                                        ⟨none, none, .store 1 (.t 65) (.c (.d (.b true)))⟩,
                                        ⟨some 66, none, .faddr 3 (.t 4)⟩,
                                        ⟨none, none, .store 1 (.t 66) (.c (.d (.b true)))⟩,
                                        ⟨some 67, none, .faddr 4 (.t 4)⟩,
                                        ⟨none, none, .store 1 (.t 67) (.c (.d (.b true)))⟩] false [])
                                    (.exit 0))))
                              (.seq
                                (.region [⟨some 68, none, .mov (.t 0)⟩,
                                    ⟨some 69, none, .bin .and (.t 68) (.c (.d (.i .i64 7)))⟩,
                                    ⟨some 70, none, .bin .eql (.t 69) (.c (.d (.i .i64 3)))⟩,
                                    ⟨some 71, none, .mov (.t 0)⟩,
                                    ⟨some 72, none, .bin .and (.t 71) (.c (.d (.i .i64 7)))⟩,
                                    ⟨some 73, none, .bin .eql (.t 72) (.c (.d (.i .i64 2)))⟩,
                                    ⟨some 74, none, .faddr 2 (.t 4)⟩,
                                    ⟨none, none, .store 1 (.t 74) (.c (.d (.b true)))⟩,
                                    ⟨some 75, none, .faddr 4 (.t 4)⟩,
                                    ⟨none, none, .store 1 (.t 75) (.c (.d (.b true)))⟩,
                                    ⟨some 76, none, .faddr 3 (.t 4)⟩,
                                    ⟨none, none, .store 1 (.t 76) (.t 70)⟩,
                                    ⟨some 77, none, .faddr 5 (.t 4)⟩,
                                    ⟨none, none, .store 1 (.t 77) (.t 73)⟩] false [])
                                (.exit 0))))
                          (.region [⟨some 78, none, .faddr 5 (.t 4)⟩,
                              ⟨none, none, .store 1 (.t 78) (.c (.d (.b true)))⟩] false [])))
                      (.seq
                        (.region [⟨some 79, none, .faddr 2 (.t 4)⟩,
                            ⟨none, none, .store 1 (.t 79) (.c (.d (.b true)))⟩] false [])
                        (.exit 0))))
                  (.seq
                    (.region [⟨some 80, none, .faddr 5 (.t 4)⟩,
                        ⟨none, none, .store 1 (.t 80) (.c (.d (.b true)))⟩] false [])
                    (.exit 0))))
              (.seq
                (.region [⟨some 81, none, .mov (.t 0)⟩,
                    ⟨some 82, none, .bin .eql (.t 81) (.c (.d (.i .i64 5)))⟩,
                    ⟨some 83, none, .mov (.t 0)⟩,
                    ⟨some 84, none, .bin .eql (.t 83) (.c (.d (.i .i64 6)))⟩,
                    ⟨some 85, none, .faddr 4 (.t 4)⟩,
                    ⟨none, none, .store 1 (.t 85) (.t 82)⟩,
                    ⟨some 86, none, .faddr 5 (.t 4)⟩,
                    ⟨none, none, .store 1 (.t 86) (.t 84)⟩] false [])
                (.exit 0)))))
        (.seq
          (.region [⟨some 87, none, .load 6 true (.t 4)⟩,
              ⟨none, none, .store 6 (.t 2) (.t 87)⟩,
              ⟨some 3, none, .mov (.c (.d (.i .i64 0)))⟩] false [])
          (.ret))))⟩


/-- spindle/spindlelaw0.Num -/
def F12_spindlelaw0_Num : SFn := ⟨1, true, [.tmp 2],
  .seq
    (.region [⟨some 2, none, .mov (.c (.d (.i .i64 0)))⟩] false [])
    (.seq
      (.region [⟨some 3, none, .mov (.t 0)⟩,
          ⟨some 2, none, .mov (.t 3)⟩] false [])
      (.ret))⟩

def F14_isa_Ops_b0 : SCode :=
  .seq
                (.region [⟨some 4, none, .bin .lss (.t 3) (.c (.d (.i .i64 256)))⟩] false [])
                (.seq
                  (.cond (.t 4)
                    (.skip)
                    (.exit 0))
                  (.seq
                    (.block 1 (.seq
                        (.region [⟨some 5, none, .mov (.t 3)⟩,
                            ⟨some 2, none, .mov (.t 5)⟩] false [])
                        (.seq
                          (.region [⟨some 6, none, .mov (.t 2)⟩,
                              ⟨some 7, none, .call 18 [.t 6]⟩,
                              ⟨some 8, none, .bin .neq (.t 7) (.c (.d (.i .i64 0)))⟩] false [])
                          (.cond (.t 8)
                            (.region [⟨some 9, none, .mov (.t 1)⟩,
                                ⟨some 10, none, .mov (.t 2)⟩,
                                ⟨some 11, none, .lits 1 [.i .i64 0] [(0, 1, .t 10)]⟩,
                                ⟨some 12, none, .app 1 8 (.t 9) (.t 11)⟩,
                                ⟨some 1, none, .mov (.t 12)⟩] false [])
                            (.skip)))))
                    (.region [⟨some 13, none, .bin .add (.t 3) (.c (.d (.i .i64 1)))⟩,
                        ⟨some 3, none, .mov (.t 13)⟩] false [])))
/-- spindle/isa.Ops -/
def F14_isa_Ops : SFn := ⟨0, true, [.tmp 0],
  .seq
    (.region [⟨some 0, none, .mov (.c (.d (.sl 0 false [])))⟩] false [])
    (.seq
      (.region [⟨some 1, none, .mov (.c (.d (.sl 0 false [])))⟩] false [])
      (.seq
        (.seq
          (.region [⟨some 3, none, .mov (.c (.d (.i .i64 0)))⟩] false [])
          (.block 0 (.loop [1, 3] false F14_isa_Ops_b0)))
        (.seq
          (.region [⟨some 14, none, .mov (.t 1)⟩,
              ⟨some 0, none, .mov (.t 14)⟩] false [])
          (.ret))))⟩

def F15_spindleref2_Ops_b0 : SCode :=
  .seq
                (.seq
                  (.region [⟨some 3, none, .mov (.t 2)⟩,
                      ⟨some 4, none, .bin .lss (.t 3) (.c (.d (.i .i64 256)))⟩] false [])
                  (.cond (.t 4)
                    (.skip)
                    (.exit 0)))
                (.seq
                  (.block 1 (.seq
                      (.region [⟨some 7, none, .mov (.t 2)⟩,
                          ⟨some 8, none, .call 17 [.t 7]⟩,
                          ⟨some 9, none, .len false (.t 8)⟩,
                          ⟨some 10, none, .bin .gtr (.t 9) (.c (.d (.i .i64 0)))⟩] false [])
                      (.cond (.t 10)
                        (.region [⟨some 11, none, .mov (.t 1)⟩,
                            ⟨some 12, none, .mov (.t 2)⟩,
                            ⟨some 13, none, .lits 1 [.i .i64 0] [(0, 1, .t 12)]⟩,
                            ⟨some 14, none, .app 1 8 (.t 11) (.t 13)⟩,
                            ⟨some 1, none, .mov (.t 14)⟩] false [])
                        (.skip))))
                  (.region [⟨some 5, none, .mov (.t 2)⟩,
                      ⟨some 6, none, .bin .add (.t 5) (.c (.d (.i .i64 1)))⟩,
                      ⟨some 2, none, .mov (.t 6)⟩] false []))
/-- spindle/spindleref2.Ops -/
def F15_spindleref2_Ops : SFn := ⟨0, true, [.tmp 0],
  .seq
    (.region [⟨some 0, none, .mov (.c (.d (.sl 0 false [])))⟩] false [])
    (.seq
      (.region [⟨some 1, none, .mov (.c (.d (.sl 0 false [])))⟩] false [])
      (.seq
        (.seq
          (.region [⟨some 2, none, .mov (.c (.d (.i .i64 0)))⟩] false [])
          (.block 0 (.loop [1, 2] false F15_spindleref2_Ops_b0)))
        (.seq
          (.region [⟨some 15, none, .mov (.t 1)⟩,
              ⟨some 0, none, .mov (.t 15)⟩] false [])
          (.ret))))⟩

def F16_spindlelaw0_SameInts_b0 : SCode :=
  .seq
                (.seq
                  (.region [⟨some 11, none, .mov (.t 5)⟩,
                      ⟨some 12, none, .mov (.t 0)⟩,
                      ⟨some 13, none, .len false (.t 12)⟩,
                      ⟨some 14, none, .bin .lss (.t 11) (.t 13)⟩] false [])
                  (.cond (.t 14)
                    (.skip)
                    (.exit 0)))
                (.seq
                  (.block 1 (.seq
                      (.region [⟨some 17, none, .mov (.t 0)⟩,
                          ⟨some 18, none, .mov (.t 5)⟩,
                          ⟨some 19, none, .iaddr 1 (.t 17) (.t 18)⟩,
                          ⟨some 20, none, .load 1 false (.t 19)⟩,
                          ⟨some 21, none, .mov (.t 1)⟩,
                          ⟨some 22, none, .mov (.t 5)⟩,
                          ⟨some 23, none, .iaddr 1 (.t 21) (.t 22)⟩,
                          ⟨some 24, none, .load 1 false (.t 23)⟩,
                          ⟨some 25, none, .bin .neq (.t 20) (.t 24)⟩] true [0, 0, 3, 7, 0, 0, 48, 112, 255])
                      (.cond (.t 25)
                        (.seq
                          (.region [⟨some 4, none, .mov (.c (.d (.b false)))⟩] false [])
                          (.ret))
                        (.skip))))
                  (.region [⟨some 15, none, .mov (.t 5)⟩,
                      ⟨some 16, none, .bin .add (.t 15) (.c (.d (.i .i64 1)))⟩,
                      ⟨some 5, none, .mov (.t 16)⟩] false []))
/-- spindle/spindlelaw0.SameInts -/
def F16_spindlelaw0_SameInts : SFn := ⟨2, true, [.tmp 4],
  .seq
    (.region [⟨some 4, none, .mov (.c (.d (.b false)))⟩] false [])
    (.seq
      (.seq
        (.region [⟨some 6, none, .mov (.t 0)⟩,
            ⟨some 7, none, .len false (.t 6)⟩,
            ⟨some 8, none, .mov (.t 1)⟩,
            ⟨some 9, none, .len false (.t 8)⟩,
            ⟨some 10, none, .bin .neq (.t 7) (.t 9)⟩] false [])
        (.cond (.t 10)
          (.seq
            (.region [⟨some 4, none, .mov (.c (.d (.b false)))⟩] false [])
            (.ret))
          (.skip)))
      (.seq
        (.seq
          (.region [⟨some 5, none, .mov (.c (.d (.i .i64 0)))⟩] false [])
          (.block 0 (.loop [0, 1, 5] false F16_spindlelaw0_SameInts_b0)))
        (.seq
          (.region [⟨some 4, none, .mov (.c (.d (.b true)))⟩] false [])
          (.ret))))⟩


/-- spindle/spindleref2.Rows -/
def F17_spindleref2_Rows : SFn := ⟨1, true, [.tmp 2],
  .seq
    (.region [⟨some 2, none, .mov (.c (.d (.sl 0 false [])))⟩] false [])
    (.seq
      (.seq
        (.region [⟨some 6, none, .mov (.t 0)⟩,
            ⟨some 7, none, .bin .lss (.t 6) (.c (.d (.i .i64 0)))⟩,
            ⟨some 8, none, .mov (.t 7)⟩,
            ⟨some 9, (some (2, false)), .mov (.t 0)⟩,
            ⟨some 10, (some (2, false)), .bin .gtr (.t 9) (.c (.d (.i .i64 255)))⟩,
            ⟨some 11, none, .pick (.t 8) (.c (.d (.b true))) (.t 10)⟩] false [])
        (.cond (.t 11)
          (.seq
            (.region [⟨some 2, none, .mov (.c (.d (.sl 0 false [])))⟩] false [])
            (.ret))
          (.skip)))
      (.seq
        (.region [⟨some 12, none, .mov (.t 0)⟩,
            ⟨some 13, none, .bin .rem (.t 12) (.c (.d (.i .i64 8)))⟩,
            ⟨some 3, none, .mov (.t 13)⟩] false [])
        (.seq
          (.region [⟨some 14, none, .mov (.t 0)⟩,
              ⟨some 15, none, .bin .quo (.t 14) (.c (.d (.i .i64 16)))⟩,
              ⟨some 16, none, .bin .mul (.t 15) (.c (.d (.i .i64 16)))⟩,
              ⟨some 4, none, .mov (.t 16)⟩] false [])
          (.seq
            (.region [⟨some 17, none, .mov (.t 0)⟩,
                ⟨some 18, none, .bin .quo (.t 17) (.c (.d (.i .i64 8)))⟩,
                ⟨some 19, none, .bin .rem (.t 18) (.c (.d (.i .i64 2)))⟩,
                ⟨some 20, none, .bin .eql (.t 19) (.c (.d (.i .i64 1)))⟩,
                ⟨some 5, none, .mov (.t 20)⟩] false [])
            (.seq
              (.block 0 (.seq
                  (.region [⟨some 22, none, .mov (.t 3)⟩,
                      ⟨some 23, none, .bin .eql (.t 22) (.c (.d (.i .i64 4)))⟩,
                      ⟨some 24, none, .mov (.t 23)⟩,
                      ⟨some 25, (some (2, false)), .mov (.t 3)⟩,
                      ⟨some 26, (some (2, false)), .bin .eql (.t 25) (.c (.d (.i .i64 7)))⟩,
                      ⟨some 27, none, .pick (.t 24) (.c (.d (.b true))) (.t 26)⟩,
                      ⟨some 21, none, .mov (.t 27)⟩] false [])
                  (.cond (.t 21)
                    (.seq
                      (.region [⟨some 28, none, .mov (.t 3)⟩,
                          ⟨some 29, none, .mov (.t 4)⟩,
                          ⟨some 30, none, .mov (.t 5)⟩,
                          ⟨some 31, none, .call 19 [.t 28, .t 29, .t 30]⟩,
                          ⟨some 2, none, .mov (.t 31)⟩] false [])
                      (.ret))
                    (.seq
                      (.region [⟨some 33, none, .mov (.t 3)⟩,
                          ⟨some 34, none, .bin .eql (.t 33) (.c (.d (.i .i64 5)))⟩,
                          ⟨some 35, none, .mov (.t 34)⟩,
                          ⟨some 36, (some (2, false)), .mov (.t 3)⟩,
                          ⟨some 37, (some (2, false)), .bin .eql (.t 36) (.c (.d (.i .i64 6)))⟩,
                          ⟨some 38, none, .pick (.t 35) (.c (.d (.b true))) (.t 37)⟩,
                          ⟨some 32, none, .mov (.t 38)⟩] false [])
                      (.cond (.t 32)
                        (.seq
                          (.region [⟨some 39, none, .mov (.t 3)⟩,
                              ⟨some 40, none, .mov (.t 4)⟩,
                              ⟨some 41, none, .mov (.t 5)⟩,
                              ⟨some 42, none, .call 20 [.t 39, .t 40, .t 41]⟩,
                              ⟨some 2, none, .mov (.t 42)⟩] false [])
                          (.ret))
                        (.skip))))))
              (.seq
                (.region [⟨some 43, none, .mov (.t 0)⟩,
                    ⟨some 44, none, .call 21 [.t 43]⟩,
                    ⟨some 2, none, .mov (.t 44)⟩] false [])
                (.ret)))))))⟩


/-- spindle/isa.form -/
def F18_isa_form : SFn := ⟨1, true, [.tmp 2],
  .seq
    (.region [⟨some 2, none, .mov (.c (.d (.i .i64 0)))⟩] false [])
    (.seq
      (.seq
        (.region [⟨some 4, none, .mov (.t 0)⟩,
            ⟨some 5, none, .bin .lss (.t 4) (.c (.d (.i .i64 0)))⟩,
            ⟨some 6, none, .mov (.t 5)⟩,
            ⟨some 7, (some (2, false)), .mov (.t 0)⟩,
            ⟨some 8, (some (2, false)), .bin .gtr (.t 7) (.c (.d (.i .i64 255)))⟩,
            ⟨some 9, none, .pick (.t 6) (.c (.d (.b true))) (.t 8)⟩] false [])
        (.cond (.t 9)
          (.seq
            (.region [⟨some 2, none, .mov (.c (.d (.i .i64 0)))⟩] false [])
            (.ret))
          (.skip)))
      (.seq
        (.region [⟨some 10, none, .mov (.t 0)⟩,
            ⟨some 11, none, .bin .and (.t 10) (.c (.d (.i .i64 240)))⟩,
            ⟨some 3, none, .mov (.t 11)⟩] false [])
        (.seq
          (.seq
            (.region [⟨some 12, none, .mov (.t 0)⟩,
                ⟨some 13, none, .bin .and (.t 12) (.c (.d (.i .i64 7)))⟩] false [])
            (.block 0 (.seq
                (.block 7 (.seq
                    (.block 6 (.seq
                        (.block 5 (.seq
                            (.block 4 (.seq
                                (.block 3 (.seq
                                    (.block 2 (.seq
                                        (.block 1 (.seq
                                            (.seq
                                              (.seq
                                                (.region [⟨some 15, none, .bin .eql (.t 13) (.c (.d (.i .i64 0)))⟩,
                                                    ⟨some 14, none, .mov (.t 15)⟩] false [])
                                                (.cond (.t 14)
                                                  (.exit 1)
                                                  (.skip)))
                                              (.seq
                                                (.seq
                                                  (.region [⟨some 17, none, .bin .eql (.t 13) (.c (.d (.i .i64 1)))⟩,
                                                      ⟨some 16, none, .mov (.t 17)⟩] false [])
                                                  (.cond (.t 16)
                                                    (.exit 2)
                                                    (.skip)))
                                                (.seq
                                                  (.seq
                                                    (.region [⟨some 19, none, .bin .eql (.t 13) (.c (.d (.i .i64 3)))⟩,
                                                        ⟨some 18, none, .mov (.t 19)⟩] false [])
                                                    (.cond (.t 18)
                                                      (.exit 3)
                                                      (.skip)))
                                                  (.seq
                                                    (.seq
                                                      (.region [⟨some 21, none, .bin .eql (.t 13) (.c (.d (.i .i64 2)))⟩,
                                                          ⟨some 20, none, .mov (.t 21)⟩] false [])
                                                      (.cond (.t 20)
                                                        (.exit 4)
                                                        (.skip)))
                                                    (.seq
                                                      (.seq
                                                        (.seq
                                                          (.region [⟨some 23, none, .bin .eql (.t 13) (.c (.d (.i .i64 4)))⟩,
                                                              ⟨some 22, none, .mov (.t 23)⟩] false [])
                                                          (.cond (.t 22)
                                                            (.skip)
                                                            (.region [⟨some 24, none, .bin .eql (.t 13) (.c (.d (.i .i64 7)))⟩,
                                                                ⟨some 22, none, .mov (.t 24)⟩] false [])))
                                                        (.cond (.t 22)
                                                          (.exit 5)
                                                          (.skip)))
                                                      (.seq
                                                        (.seq
                                                          (.region [⟨some 26, none, .bin .eql (.t 13) (.c (.d (.i .i64 5)))⟩,
                                                              ⟨some 25, none, .mov (.t 26)⟩] false [])
                                                          (.cond (.t 25)
                                                            (.exit 6)
                                                            (.skip)))
                                                        (.seq
                                                          (.region [⟨some 28, none, .bin .eql (.t 13) (.c (.d (.i .i64 6)))⟩,
                                                              ⟨some 27, none, .mov (.t 28)⟩] false [])
                                                          (.cond (.t 27)
                                                            (.exit 7)
                                                            (.skip)))))))))
                                            (.exit 0)))
                                        (.seq
                                          (.seq
                                            (.region [⟨some 29, none, .mov (.t 0)⟩,
                                                ⟨some 30, none, .bin .eql (.t 29) (.c (.d (.i .i64 24)))⟩] false [])
                                            (.cond (.t 30)
                                              (.seq
                                                (.region [⟨some 2, none, .mov (.c (.d (.i .i64 10)))⟩] false [])
                                                (.ret))
                                              (.skip)))
                                          (.exit 0))))
                                    (.seq
                                      (.seq
                                        (.region [⟨some 31, none, .slcA 7 1 (.g 0) none none none⟩,
                                            ⟨some 32, none, .mov (.t 0)⟩,
                                            ⟨some 33, none, .call 22 [.t 31, .t 32]⟩] false [])
                                        (.cond (.t 33)
                                          (.seq
                                            (.region [⟨some 2, none, .mov (.c (.d (.i .i64 4)))⟩] false [])
                                            (.ret))
                                          (.skip)))
                                      (.exit 0))))
                                (.seq
                                  (.region [⟨some 34, none, .mov (.t 0)⟩,
                                      ⟨some 35, none, .bin .eql (.t 34) (.c (.d (.i .i64 219)))⟩,
                                      ⟨some 36, none, .mov (.t 35)⟩,
                                      ⟨some 37, (some (2, false)), .mov (.t 0)⟩,
                                      ⟨some 38, (some (2, false)), .bin .eql (.t 37) (.c (.d (.i .i64 195)))⟩,
                                      ⟨some 39, none, .pick (.t 36) (.c (.d (.b true))) (.t 38)⟩] false [])
                                  (.cond (.t 39)
                                    (.seq
                                      (.region [⟨some 2, none, .mov (.c (.d (.i .i64 6)))⟩] false [])
                                      (.ret))
                                    (.skip)))))
                            (.seq
                              (.seq
                                (.region [⟨some 40, none, .slcA 8 1 (.g 1) none none none⟩,
                                    ⟨some 41, none, .mov (.t 0)⟩,
                                    ⟨some 42, none, .call 22 [.t 40, .t 41]⟩] false [])
                                (.cond (.t 42)
                                  (.seq
                                    (.region [⟨some 2, none, .mov (.c (.d (.i .i64 5)))⟩] false [])
                                    (.ret))
                                  (.skip)))
                              (.exit 0))))
                        (.seq
                          (.seq
                            (.seq
                              (.region [⟨some 43, none, .mov (.t 0)⟩,
                                  ⟨some 44, none, .bin .eql (.t 43) (.c (.d (.i .i64 132)))⟩,
                                  ⟨some 45, none, .mov (.t 44)⟩,
                                  ⟨some 46, (some (2, false)), .mov (.t 0)⟩,
                                  ⟨some 47, (some (2, false)), .bin .eql (.t 46) (.c (.d (.i .i64 135)))⟩,
                                  ⟨some 48, none, .pick (.t 45) (.c (.d (.b true))) (.t 47)⟩,
                                  ⟨some 49, none, .mov (.t 48)⟩,
                                  ⟨some 50, (some (6, false)), .mov (.t 0)⟩,
                                  ⟨some 51, (some (6, false)), .bin .eql (.t 50) (.c (.d (.i .i64 212)))⟩,
                                  ⟨some 52, none, .pick (.t 49) (.c (.d (.b true))) (.t 51)⟩,
                                  ⟨some 53, none, .mov (.t 52)⟩,
                                  ⟨some 54, (some (10, false)), .mov (.t 0)⟩,
                                  ⟨some 55, (some (10, false)), .bin .eql (.t 54) (.c (.d (.i .i64 220)))⟩,
                                  ⟨some 56, none, .pick (.t 53) (.c (.d (.b true))) (.t 55)⟩,
                                  ⟨some 57, none, .mov (.t 56)⟩,
                                  ⟨some 58, (some (14, false)), .mov (.t 0)⟩,
                                  ⟨some 59, (some (14, false)), .bin .eql (.t 58) (.c (.d (.i .i64 215)))⟩,
                                  ⟨some 60, none, .pick (.t 57) (.c (.d (.b true))) (.t 59)⟩] false [])
                              (.cond (.t 60)
                                (.seq
                                  (.region [⟨some 2, none, .mov (.c (.d (.i .i64 2)))⟩] false [])
                                  (.ret))
                                (.skip)))
                            (.seq
                              (.region [⟨some 61, none, .slcA 12 1 (.g 2) none none none⟩,
                                  ⟨some 62, none, .mov (.t 3)⟩,
                                  ⟨some 63, none, .call 22 [.t 61, .t 62]⟩] false [])
                              (.cond (.t 63)
                                (.seq
                                  (.region [⟨some 2, none, .mov (.c (.d (.i .i64 3)))⟩] false [])
                                  (.ret))
                                (.skip))))
                          (.exit 0))))
                    (.seq
                      (.region [⟨some 64, none, .mov (.t 0)⟩] false [])
                      (.block 8 (.seq
                          (.region [⟨some 66, none, .bin .eql (.t 64) (.c (.d (.i .i64 133)))⟩,
                              ⟨some 65, none, .mov (.t 66)⟩] false [])
                          (.cond (.t 65)
                            (.seq
                              (.region [⟨some 2, none, .mov (.c (.d (.i .i64 9)))⟩] false [])
                              (.ret))
                            (.seq
                              (.region [⟨some 68, none, .bin .eql (.t 64) (.c (.d (.i .i64 149)))⟩,
                                  ⟨some 67, none, .mov (.t 68)⟩] false [])
                              (.cond (.t 67)
                                (.seq
                                  (.region [⟨some 2, none, .mov (.c (.d (.i .i64 1)))⟩] false [])
                                  (.ret))
                                (.skip)))))))))
                (.seq
                  (.seq
                    (.seq
                      (.region [⟨some 69, none, .mov (.t 0)⟩,
                          ⟨some 70, none, .bin .eql (.t 69) (.c (.d (.i .i64 5)))⟩,
                          ⟨some 71, none, .mov (.t 70)⟩,
                          ⟨some 72, (some (2, false)), .mov (.t 0)⟩,
                          ⟨some 73, (some (2, false)), .bin .eql (.t 72) (.c (.d (.i .i64 6)))⟩,
                          ⟨some 74, none, .pick (.t 71) (.c (.d (.b true))) (.t 73)⟩] false [])
                      (.cond (.t 74)
                        (.seq
                          (.region [⟨some 2, none, .mov (.c (.d (.i .i64 7)))⟩] false [])
                          (.ret))
                        (.skip)))
                    (.seq
                      (.region [⟨some 75, none, .slcA 11 1 (.g 3) none none none⟩,
                          ⟨some 76, none, .mov (.t 3)⟩,
                          ⟨some 77, none, .call 22 [.t 75, .t 76]⟩] false [])
                      (.cond (.t 77)
                        (.seq
                          (.region [⟨some 2, none, .mov (.c (.d (.i .i64 8)))⟩] false [])
                          (.ret))
                        (.skip))))
                  (.exit 0)))))
          (.seq
            (.region [⟨some 2, none, .mov (.c (.d (.i .i64 0)))⟩] false [])
            (.ret)))))⟩

def F19_spindleref2_arithmetic_b0 : SCode :=
  .seq
                              (.seq
                                (.region [⟨some 62, none, .mov (.t 10)⟩,
                                    ⟨some 63, none, .bin .leq (.t 62) (.c (.d (.i .i64 32)))⟩,
                                    ⟨some 64, none, .mov (.t 63)⟩,
                                    ⟨some 65, (some (2, true)), .mov (.t 1)⟩,
                                    ⟨some 66, (some (2, true)), .bin .eql (.t 65) (.c (.d (.i .i64 176)))⟩,
                                    ⟨some 67, none, .pick (.t 64) (.t 66) (.c (.d (.b false)))⟩,
                                    ⟨some 68, none, .mov (.t 67)⟩,
                                    ⟨some 69, (some (6, true)), .mov (.t 2)⟩,
                                    ⟨some 70, none, .pick (.t 68) (.t 69) (.c (.d (.b false)))⟩] false [])
                                (.cond (.t 70)
                                  (.skip)
                                  (.exit 0)))
                              (.seq
                                (.block 1 (.seq
                                    (.region [⟨some 73, none, .mov (.t 10)⟩,
                                        ⟨some 74, none, .faddr 8 (.t 7)⟩,
                                        ⟨none, none, .store 1 (.t 74) (.t 73)⟩] false [])
                                    (.seq
                                      (.region [⟨some 75, none, .mov (.t 10)⟩,
                                          ⟨some 76, none, .bin .lss (.t 75) (.c (.d (.i .i64 32)))⟩,
                                          ⟨some 77, none, .mov (.t 76)⟩,
                                          ⟨some 78, (some (2, false)), .mov (.t 0)⟩,
                                          ⟨some 79, (some (2, false)), .bin .eql (.t 78) (.c (.d (.i .i64 7)))⟩,
                                          ⟨some 80, none, .pick (.t 77) (.c (.d (.b true))) (.t 79)⟩] false [])
                                      (.cond (.t 80)
                                        (.region [⟨some 81, none, .mov (.t 9)⟩,
                                            ⟨some 82, none, .load 10 true (.t 7)⟩,
                                            ⟨some 83, none, .litsO 1 [.i .i64 0, .i .i64 0, .b false, .b false, .b false, .b false, .b false, .i .i64 0, .i .i64 0, .sl 0 false []] [(0, 10, .t 82)]⟩,
                                            ⟨some 84, none, .app 10 64 (.t 81) (.t 83)⟩,
                                            ⟨some 9, none, .mov (.t 84)⟩] false [])
                                        (.skip)))))
                                (.region [⟨some 71, none, .mov (.t 10)⟩,
                                    ⟨some 72, none, .bin .mul (.c (.d (.i .i64 2))) (.t 71)⟩,
                                    ⟨some 10, none, .mov (.t 72)⟩] false []))
/-- spindle/spindleref2.arithmetic -/
def F19_spindleref2_arithmetic : SFn := ⟨3, true, [.tmp 6],
  .seq
    (.region [⟨some 6, none, .mov (.c (.d (.sl 0 false [])))⟩] false [])
    (.seq
      (.seq
        (.region [⟨some 11, none, .mov (.t 1)⟩,
            ⟨some 12, none, .bin .eql (.t 11) (.c (.d (.i .i64 128)))⟩,
            ⟨some 13, none, .mov (.t 12)⟩,
            ⟨some 14, (some (2, true)), .mov (.t 2)⟩,
            ⟨some 15, (some (2, true)), .un .not (.t 14)⟩,
            ⟨some 16, none, .pick (.t 13) (.t 15) (.c (.d (.b false)))⟩] false [])
        (.cond (.t 16)
          (.seq
            (.region [⟨some 17, none, .build [.i .i64 0, .i .i64 0, .b false, .b false, .b false, .b false, .b false, .i .i64 0, .i .i64 0, .sl 0 false []] [(0, 1, .c (.d (.i .i64 2))), (1, 1, .c (.d (.i .i64 1))), (2, 1, .c (.d (.b true)))]⟩,
                ⟨some 18, none, .lits 1 [.i .i64 0, .i .i64 0, .b false, .b false, .b false, .b false, .b false, .i .i64 0, .i .i64 0, .sl 0 false []] [(0, 10, .t 17)]⟩,
                ⟨some 6, none, .mov (.t 18)⟩] false [])
            (.ret))
          (.skip)))
      (.seq
        (.seq
          (.region [⟨some 19, none, .mov (.t 1)⟩,
              ⟨some 20, none, .bin .eql (.t 19) (.c (.d (.i .i64 208)))⟩,
              ⟨some 21, none, .mov (.t 20)⟩,
              ⟨some 22, (some (2, true)), .mov (.t 0)⟩,
              ⟨some 23, (some (2, true)), .bin .eql (.t 22) (.c (.d (.i .i64 4)))⟩,
              ⟨some 24, (some (2, true)), .mov (.t 23)⟩,
              ⟨some 25, (some (5, false)), .mov (.t 2)⟩,
              ⟨some 26, (some (5, false)), .un .not (.t 25)⟩,
              ⟨some 27, (some (2, true)), .pick (.t 24) (.c (.d (.b true))) (.t 26)⟩,
              ⟨some 28, none, .pick (.t 21) (.t 27) (.c (.d (.b false)))⟩] false [])
          (.cond (.t 28)
            (.seq
              (.region [⟨some 29, none, .lits 3 [.i .i64 0] [(0, 1, .c (.d (.i .i64 16))), (1, 1, .c (.d (.i .i64 32))), (2, 1, .c (.d (.i .i64 64)))]⟩,
                  ⟨some 30, none, .build [.i .i64 0, .i .i64 0, .b false, .b false, .b false, .b false, .b false, .i .i64 0, .i .i64 0, .sl 0 false []] [(0, 1, .c (.d (.i .i64 2))), (1, 1, .c (.d (.i .i64 1))), (2, 1, .c (.d (.b true))), (9, 1, .t 29)]⟩,
                  ⟨some 31, none, .lits 1 [.i .i64 0, .i .i64 0, .b false, .b false, .b false, .b false, .b false, .i .i64 0, .i .i64 0, .sl 0 false []] [(0, 10, .t 30)]⟩,
                  ⟨some 6, none, .mov (.t 31)⟩] false [])
              (.ret))
            (.skip)))
        (.seq
          (.seq
            (.region [⟨some 32, none, .mov (.t 1)⟩,
                ⟨some 33, none, .bin .eql (.t 32) (.c (.d (.i .i64 128)))⟩,
                ⟨some 34, none, .mov (.t 33)⟩,
                ⟨some 35, (some (2, false)), .mov (.t 1)⟩,
                ⟨some 36, (some (2, false)), .bin .gtr (.t 35) (.c (.d (.i .i64 192)))⟩,
                ⟨some 37, none, .pick (.t 34) (.c (.d (.b true))) (.t 36)⟩] false [])
            (.cond (.t 37)
              (.seq
                (.region [⟨some 6, none, .mov (.c (.d (.sl 0 false [])))⟩] false [])
                (.ret))
              (.skip)))
          (.seq
            (.region [⟨some 38, none, .mov (.t 2)⟩,
                ⟨some 39, none, .mov (.t 2)⟩,
                ⟨some 40, none, .un .not (.t 39)⟩,
                ⟨some 41, none, .build [.i .i64 0, .i .i64 0, .b false, .b false, .b false, .b false, .b false, .i .i64 0, .i .i64 0, .sl 0 false []] [(0, 1, .c (.d (.i .i64 3))), (1, 1, .c (.d (.i .i64 1))), (2, 1, .c (.d (.b true))), (3, 1, .t 38), (5, 1, .t 40)]⟩,
                ⟨some 7, none, .alloc [.i .i64 0, .i .i64 0, .b false, .b false, .b false, .b false, .b false, .i .i64 0, .i .i64 0, .sl 0 false []]⟩,
                ⟨none, none, .store 10 (.t 7) (.t 41)⟩] false [])
            (.seq
              (.region [⟨some 42, none, .mov (.t 1)⟩,
                  ⟨some 43, none, .bin .eql (.t 42) (.c (.d (.i .i64 48)))⟩,
                  ⟨some 44, none, .mov (.t 43)⟩,
                  ⟨some 45, (some (2, false)), .mov (.t 1)⟩,
                  ⟨some 46, (some (2, false)), .bin .eql (.t 45) (.c (.d (.i .i64 144)))⟩,
                  ⟨some 47, none, .pick (.t 44) (.c (.d (.b true))) (.t 46)⟩,
                  ⟨some 8, none, .mov (.t 47)⟩] false [])
              (.seq
                (.seq
                  (.region [⟨some 48, none, .mov (.t 8)⟩,
                      ⟨some 49, none, .mov (.t 48)⟩,
                      ⟨some 50, (some (1, false)), .mov (.t 1)⟩,
                      ⟨some 51, (some (1, false)), .bin .eql (.t 50) (.c (.d (.i .i64 32)))⟩,
                      ⟨some 52, none, .pick (.t 49) (.c (.d (.b true))) (.t 51)⟩] false [])
                  (.cond (.t 52)
                    (.region [⟨some 53, none, .faddr 1 (.t 7)⟩,
                        ⟨none, none, .store 1 (.t 53) (.c (.d (.i .i64 2)))⟩] false [])
                    (.skip)))
                (.seq
                  (.region [⟨some 54, none, .load 10 true (.t 7)⟩,
                      ⟨some 55, none, .litsO 1 [.i .i64 0, .i .i64 0, .b false, .b false, .b false, .b false, .b false, .i .i64 0, .i .i64 0, .sl 0 false []] [(0, 10, .t 54)]⟩,
                      ⟨some 9, none, .mov (.t 55)⟩] false [])
                  (.seq
                    (.seq
                      (.region [⟨some 56, none, .mov (.t 8)⟩] false [])
                      (.cond (.t 56)
                        (.seq
                          (.region [⟨some 57, none, .faddr 8 (.t 7)⟩,
                              ⟨none, none, .store 1 (.t 57) (.c (.d (.i .i64 1)))⟩] false [])
                          (.region [⟨some 58, none, .mov (.t 9)⟩,
                              ⟨some 59, none, .load 10 true (.t 7)⟩,
                              ⟨some 60, none, .litsO 1 [.i .i64 0, .i .i64 0, .b false, .b false, .b false, .b false, .b false, .i .i64 0, .i .i64 0, .sl 0 false []] [(0, 10, .t 59)]⟩,
                              ⟨some 61, none, .app 10 64 (.t 58) (.t 60)⟩,
                              ⟨some 9, none, .mov (.t 61)⟩] false []))
                        (.skip)))
                    (.seq
                      (.seq
                        (.region [⟨some 10, none, .mov (.c (.d (.i .i64 8)))⟩] false [])
                        (.block 0 (.loop [0, 1, 2, 7, 9, 10] false F19_spindleref2_arithmetic_b0)))
                      (.seq
                        (.region [⟨some 85, none, .mov (.t 9)⟩,
                            ⟨some 6, none, .mov (.t 85)⟩] false [])
                        (.ret)))))))))))⟩


/-- spindle/spindleref2.jumps -/
def F20_spindleref2_jumps : SFn := ⟨3, true, [.tmp 6],
  .seq
    (.region [⟨some 6, none, .mov (.c (.d (.sl 0 false [])))⟩] false [])
    (.seq
      (.region [⟨some 9, none, .build [.i .i64 0, .i .i64 0, .b false, .b false, .b false, .b false, .b false, .i .i64 0, .i .i64 0, .sl 0 false []] [(1, 1, .c (.d (.i .i64 1)))]⟩,
          ⟨some 7, none, .alloc [.i .i64 0, .i .i64 0, .b false, .b false, .b false, .b false, .b false, .i .i64 0, .i .i64 0, .sl 0 false []]⟩,
          ⟨none, none, .store 10 (.t 7) (.t 9)⟩] false [])
      (.seq
        (.block 0 (.seq
            (.region [⟨some 11, none, .mov (.t 1)⟩,
                ⟨some 12, none, .bin .eql (.t 11) (.c (.d (.i .i64 0)))⟩,
                ⟨some 13, none, .mov (.t 12)⟩,
                ⟨some 14, (some (2, true)), .mov (.t 2)⟩,
                ⟨some 15, (some (2, true)), .un .not (.t 14)⟩,
                ⟨some 16, none, .pick (.t 13) (.t 15) (.c (.d (.b false)))⟩,
                ⟨some 10, none, .mov (.t 16)⟩] false [])
            (.cond (.t 10)
              (.seq
                (.region [⟨some 17, none, .faddr 0 (.t 7)⟩,
                    ⟨none, none, .store 1 (.t 17) (.c (.d (.i .i64 7)))⟩] false [])
                (.seq
                  (.region [⟨some 18, none, .mov (.t 0)⟩,
                      ⟨some 19, none, .bin .eql (.t 18) (.c (.d (.i .i64 5)))⟩,
                      ⟨some 20, none, .faddr 4 (.t 7)⟩,
                      ⟨none, none, .store 1 (.t 20) (.t 19)⟩] false [])
                  (.seq
                    (.region [⟨some 21, none, .mov (.t 0)⟩,
                        ⟨some 22, none, .bin .eql (.t 21) (.c (.d (.i .i64 6)))⟩,
                        ⟨some 23, none, .faddr 5 (.t 7)⟩,
                        ⟨none, none, .store 1 (.t 23) (.t 22)⟩] false [])
                    (.seq
                      (.region [⟨some 24, none, .load 10 true (.t 7)⟩,
                          ⟨some 25, none, .lits 1 [.i .i64 0, .i .i64 0, .b false, .b false, .b false, .b false, .b false, .i .i64 0, .i .i64 0, .sl 0 false []] [(0, 10, .t 24)]⟩,
                          ⟨some 6, none, .mov (.t 25)⟩] false [])
                      (.ret)))))
              (.seq
                (.region [⟨some 27, none, .mov (.t 1)⟩,
                    ⟨some 28, none, .bin .eql (.t 27) (.c (.d (.i .i64 128)))⟩,
                    ⟨some 29, none, .mov (.t 28)⟩,
                    ⟨some 30, (some (2, true)), .mov (.t 0)⟩,
                    ⟨some 31, (some (2, true)), .bin .eql (.t 30) (.c (.d (.i .i64 5)))⟩,
                    ⟨some 32, none, .pick (.t 29) (.t 31) (.c (.d (.b false)))⟩,
                    ⟨some 33, none, .mov (.t 32)⟩,
                    ⟨some 34, (some (6, true)), .mov (.t 2)⟩,
                    ⟨some 35, (some (6, true)), .un .not (.t 34)⟩,
                    ⟨some 36, none, .pick (.t 33) (.t 35) (.c (.d (.b false)))⟩,
                    ⟨some 26, none, .mov (.t 36)⟩] false [])
                (.cond (.t 26)
                  (.seq
                    (.region [⟨some 37, none, .faddr 0 (.t 7)⟩,
                        ⟨none, none, .store 1 (.t 37) (.c (.d (.i .i64 9)))⟩] false [])
                    (.seq
                      (.region [⟨some 38, none, .faddr 5 (.t 7)⟩,
                          ⟨none, none, .store 1 (.t 38) (.c (.d (.b true)))⟩] false [])
                      (.seq
                        (.region [⟨some 39, none, .load 10 true (.t 7)⟩,
                            ⟨some 8, none, .alloc [.i .i64 0, .i .i64 0, .b false, .b false, .b false, .b false, .b false, .i .i64 0, .i .i64 0, .sl 0 false []]⟩,
                            ⟨none, none, .store 10 (.t 8) (.t 39)⟩] false [])
                        (.seq
                          (.region [⟨some 40, none, .faddr 7 (.t 8)⟩,
                              ⟨none, none, .store 1 (.t 40) (.c (.d (.i .i64 1)))⟩] false [])
                          (.seq
                            (.region [⟨some 41, none, .load 10 true (.t 7)⟩,
                                ⟨some 42, none, .load 10 true (.t 8)⟩,
                                ⟨some 43, none, .lits 2 [.i .i64 0, .i .i64 0, .b false, .b false, .b false, .b false, .b false, .i .i64 0, .i .i64 0, .sl 0 false []] [(0, 10, .t 41), (10, 10, .t 42)]⟩,
                                ⟨some 6, none, .mov (.t 43)⟩] false [])
                            (.ret))))))
                  (.seq
                    (.region [⟨some 45, none, .mov (.t 1)⟩,
                        ⟨some 46, none, .bin .eql (.t 45) (.c (.d (.i .i64 144)))⟩,
                        ⟨some 47, none, .mov (.t 46)⟩,
                        ⟨some 48, (some (2, true)), .mov (.t 0)⟩,
                        ⟨some 49, (some (2, true)), .bin .eql (.t 48) (.c (.d (.i .i64 5)))⟩,
                        ⟨some 50, none, .pick (.t 47) (.t 49) (.c (.d (.b false)))⟩,
                        ⟨some 51, none, .mov (.t 50)⟩,
                        ⟨some 52, (some (6, true)), .mov (.t 2)⟩,
                        ⟨some 53, (some (6, true)), .un .not (.t 52)⟩,
                        ⟨some 54, none, .pick (.t 51) (.t 53) (.c (.d (.b false)))⟩,
                        ⟨some 44, none, .mov (.t 54)⟩] false [])
                    (.cond (.t 44)
                      (.seq
                        (.region [⟨some 55, none, .faddr 0 (.t 7)⟩,
                            ⟨none, none, .store 1 (.t 55) (.c (.d (.i .i64 1)))⟩] false [])
                        (.seq
                          (.region [⟨some 56, none, .load 10 true (.t 7)⟩,
                              ⟨some 57, none, .lits 1 [.i .i64 0, .i .i64 0, .b false, .b false, .b false, .b false, .b false, .i .i64 0, .i .i64 0, .sl 0 false []] [(0, 10, .t 56)]⟩,
                              ⟨some 6, none, .mov (.t 57)⟩] false [])
                          (.ret)))
                      (.seq
                        (.region [⟨some 59, none, .mov (.t 1)⟩,
                            ⟨some 60, none, .bin .geq (.t 59) (.c (.d (.i .i64 16)))⟩,
                            ⟨some 61, none, .mov (.t 60)⟩,
                            ⟨some 62, (some (2, true)), .mov (.t 1)⟩,
                            ⟨some 63, (some (2, true)), .bin .leq (.t 62) (.c (.d (.i .i64 112)))⟩,
                            ⟨some 64, none, .pick (.t 61) (.t 63) (.c (.d (.b false)))⟩,
                            ⟨some 65, none, .mov (.t 64)⟩,
                            ⟨some 66, (some (6, false)), .mov (.t 1)⟩,
                            ⟨some 67, (some (6, false)), .bin .geq (.t 66) (.c (.d (.i .i64 160)))⟩,
                            ⟨some 68, (some (6, false)), .mov (.t 67)⟩,
                            ⟨some 69, (some (9, true)), .mov (.t 1)⟩,
                            ⟨some 70, (some (9, true)), .bin .leq (.t 69) (.c (.d (.i .i64 208)))⟩,
                            ⟨some 71, (some (6, false)), .pick (.t 68) (.t 70) (.c (.d (.b false)))⟩,
                            ⟨some 72, none, .pick (.t 65) (.c (.d (.b true))) (.t 71)⟩,
                            ⟨some 58, none, .mov (.t 72)⟩] false [])
                        (.cond (.t 58)
                          (.seq
                            (.region [⟨some 73, none, .mov (.t 2)⟩,
                                ⟨some 74, none, .mov (.t 2)⟩,
                                ⟨some 75, none, .un .not (.t 74)⟩,
                                ⟨some 76, none, .build [.i .i64 0, .i .i64 0, .b false, .b false, .b false, .b false, .b false, .i .i64 0, .i .i64 0, .sl 0 false []] [(0, 1, .c (.d (.i .i64 8))), (1, 1, .c (.d (.i .i64 1))), (2, 1, .c (.d (.b true))), (4, 1, .c (.d (.b true))), (3, 1, .t 73), (5, 1, .t 75)]⟩,
                                ⟨some 77, none, .lits 1 [.i .i64 0, .i .i64 0, .b false, .b false, .b false, .b false, .b false, .i .i64 0, .i .i64 0, .sl 0 false []] [(0, 10, .t 76)]⟩,
                                ⟨some 6, none, .mov (.t 77)⟩] false [])
                            (.ret))
                          (.skip))))))))))
        (.seq
          (.region [⟨some 6, none, .mov (.c (.d (.sl 0 false [])))⟩] false [])
          (.ret))))⟩


/-- spindle/spindleref2.moves -/
def F21_spindleref2_moves : SFn := ⟨1, true, [.tmp 2],
  .seq
    (.region [⟨some 2, none, .mov (.c (.d (.sl 0 false [])))⟩] false [])
    (.seq
      (.region [⟨some 6, none, .lits 7 [.i .i64 0] [(0, 1, .c (.d (.i .i64 97))), (1, 1, .c (.d (.i .i64 105))), (2, 1, .c (.d (.i .i64 113))), (3, 1, .c (.d (.i .i64 121))), (4, 1, .c (.d (.i .i64 129))), (5, 1, .c (.d (.i .i64 137))), (6, 1, .c (.d (.i .i64 145)))]⟩,
          ⟨some 3, none, .mov (.t 6)⟩] false [])
      (.seq
        (.region [⟨some 7, none, .lits 4 [.i .i64 0] [(0, 1, .c (.d (.i .i64 98))), (1, 1, .c (.d (.i .i64 106))), (2, 1, .c (.d (.i .i64 114))), (3, 1, .c (.d (.i .i64 122)))]⟩,
            ⟨some 4, none, .mov (.t 7)⟩] false [])
        (.seq
          (.region [⟨some 8, none, .lits 4 [.i .i64 0] [(0, 1, .c (.d (.i .i64 99))), (1, 1, .c (.d (.i .i64 107))), (2, 1, .c (.d (.i .i64 115))), (3, 1, .c (.d (.i .i64 123)))]⟩,
              ⟨some 5, none, .mov (.t 8)⟩] false [])
          (.seq
            (.block 0 (.seq
                (.region [⟨some 10, none, .mov (.t 0)⟩,
                    ⟨some 11, none, .bin .eql (.t 10) (.c (.d (.i .i64 24)))⟩,
                    ⟨some 9, none, .mov (.t 11)⟩] false [])
                (.cond (.t 9)
                  (.seq
                    (.region [⟨some 12, none, .build [.i .i64 0, .i .i64 0, .b false, .b false, .b false, .b false, .b false, .i .i64 0, .i .i64 0, .sl 0 false []] [(0, 1, .c (.d (.i .i64 10))), (1, 1, .c (.d (.i .i64 1))), (2, 1, .c (.d (.b true))), (5, 1, .c (.d (.b true))), (6, 1, .c (.d (.b true)))]⟩,
                        ⟨some 13, none, .build [.i .i64 0, .i .i64 0, .b false, .b false, .b false, .b false, .b false, .i .i64 0, .i .i64 0, .sl 0 false []] [(0, 1, .c (.d (.i .i64 10))), (1, 1, .c (.d (.i .i64 1))), (2, 1, .c (.d (.b true))), (5, 1, .c (.d (.b true))), (7, 1, .c (.d (.i .i64 1)))]⟩,
                        ⟨some 14, none, .lits 2 [.i .i64 0, .i .i64 0, .b false, .b false, .b false, .b false, .b false, .i .i64 0, .i .i64 0, .sl 0 false []] [(0, 10, .t 12), (10, 10, .t 13)]⟩,
                        ⟨some 2, none, .mov (.t 14)⟩] false [])
                    (.ret))
                  (.seq
                    (.region [⟨some 16, none, .mov (.t 3)⟩,
                        ⟨some 17, none, .mov (.t 0)⟩,
                        ⟨some 18, none, .call 23 [.t 16, .t 17]⟩,
                        ⟨some 15, none, .mov (.t 18)⟩] false [])
                    (.cond (.t 15)
                      (.seq
                        (.region [⟨some 19, none, .build [.i .i64 0, .i .i64 0, .b false, .b false, .b false, .b false, .b false, .i .i64 0, .i .i64 0, .sl 0 false []] [(0, 1, .c (.d (.i .i64 4))), (1, 1, .c (.d (.i .i64 1))), (2, 1, .c (.d (.b true))), (3, 1, .c (.d (.b true))), (4, 1, .c (.d (.b true)))]⟩,
                            ⟨some 20, none, .lits 1 [.i .i64 0, .i .i64 0, .b false, .b false, .b false, .b false, .b false, .i .i64 0, .i .i64 0, .sl 0 false []] [(0, 10, .t 19)]⟩,
                            ⟨some 2, none, .mov (.t 20)⟩] false [])
                        (.ret))
                      (.seq
                        (.region [⟨some 22, none, .mov (.t 4)⟩,
                            ⟨some 23, none, .mov (.t 0)⟩,
                            ⟨some 24, none, .call 23 [.t 22, .t 23]⟩,
                            ⟨some 21, none, .mov (.t 24)⟩] false [])
                        (.cond (.t 21)
                          (.seq
                            (.region [⟨some 25, none, .build [.i .i64 0, .i .i64 0, .b false, .b false, .b false, .b false, .b false, .i .i64 0, .i .i64 0, .sl 0 false []] [(0, 1, .c (.d (.i .i64 5))), (1, 1, .c (.d (.i .i64 1))), (2, 1, .c (.d (.b true))), (4, 1, .c (.d (.b true))), (5, 1, .c (.d (.b true)))]⟩,
                                ⟨some 26, none, .lits 1 [.i .i64 0, .i .i64 0, .b false, .b false, .b false, .b false, .b false, .i .i64 0, .i .i64 0, .sl 0 false []] [(0, 10, .t 25)]⟩,
                                ⟨some 2, none, .mov (.t 26)⟩] false [])
                            (.ret))
                          (.seq
                            (.region [⟨some 28, none, .mov (.t 5)⟩,
                                ⟨some 29, none, .mov (.t 0)⟩,
                                ⟨some 30, none, .call 23 [.t 28, .t 29]⟩,
                                ⟨some 27, none, .mov (.t 30)⟩] false [])
                            (.cond (.t 27)
                              (.seq
                                (.region [⟨some 31, none, .build [.i .i64 0, .i .i64 0, .b false, .b false, .b false, .b false, .b false, .i .i64 0, .i .i64 0, .sl 0 false []] [(0, 1, .c (.d (.i .i64 5))), (1, 1, .c (.d (.i .i64 1))), (2, 1, .c (.d (.b true))), (3, 1, .c (.d (.b true))), (4, 1, .c (.d (.b true)))]⟩,
                                    ⟨some 32, none, .lits 1 [.i .i64 0, .i .i64 0, .b false, .b false, .b false, .b false, .b false, .i .i64 0, .i .i64 0, .sl 0 false []] [(0, 10, .t 31)]⟩,
                                    ⟨some 2, none, .mov (.t 32)⟩] false [])
                                (.ret))
                              (.seq
                                (.region [⟨some 34, none, .mov (.t 0)⟩,
                                    ⟨some 35, none, .bin .eql (.t 34) (.c (.d (.i .i64 219)))⟩,
                                    ⟨some 36, none, .mov (.t 35)⟩,
                                    ⟨some 37, (some (2, false)), .mov (.t 0)⟩,
                                    ⟨some 38, (some (2, false)), .bin .eql (.t 37) (.c (.d (.i .i64 195)))⟩,
                                    ⟨some 39, none, .pick (.t 36) (.c (.d (.b true))) (.t 38)⟩,
                                    ⟨some 33, none, .mov (.t 39)⟩] false [])
                                (.cond (.t 33)
                                  (.seq
                                    (.region [⟨some 40, none, .lits 10 [.i .i64 0] [(0, 1, .c (.d (.i .i64 0))), (1, 1, .c (.d (.i .i64 64))), (2, 1, .c (.d (.i .i64 80))), (3, 1, .c (.d (.i .i64 160))), (4, 1, .c (.d (.i .i64 1))), (5, 1, .c (.d (.i .i64 65))), (6, 1, .c (.d (.i .i64 81))), (7, 1, .c (.d (.i .i64 161))), (8, 1, .c (.d (.i .i64 225))), (9, 1, .c (.d (.i .i64 241)))]⟩,
                                        ⟨some 41, none, .build [.i .i64 0, .i .i64 0, .b false, .b false, .b false, .b false, .b false, .i .i64 0, .i .i64 0, .sl 0 false []] [(0, 1, .c (.d (.i .i64 6))), (1, 1, .c (.d (.i .i64 3))), (2, 1, .c (.d (.b true))), (3, 1, .c (.d (.b true))), (4, 1, .c (.d (.b true))), (9, 1, .t 40)]⟩,
                                        ⟨some 42, none, .lits 1 [.i .i64 0, .i .i64 0, .b false, .b false, .b false, .b false, .b false, .i .i64 0, .i .i64 0, .sl 0 false []] [(0, 10, .t 41)]⟩,
                                        ⟨some 2, none, .mov (.t 42)⟩] false [])
                                    (.ret))
                                  (.skip))))))))))))
            (.seq
              (.region [⟨some 2, none, .mov (.c (.d (.sl 0 false [])))⟩] false [])
              (.ret))))))⟩


/-- slices.Contains[[]int,int] -/
def F22_slices_Contains_int_int : SFn := ⟨2, true, [.tmp 4],
  .seq
    (.region [⟨some 4, none, .mov (.c (.d (.b false)))⟩] false [])
    (.seq
      (.region [⟨some 5, none, .mov (.t 0)⟩,
          ⟨some 6, none, .mov (.t 1)⟩,
          ⟨some 7, none, .call 24 [.t 5, .t 6]⟩,
          ⟨some 8, none, .bin .geq (.t 7) (.c (.d (.i .i64 0)))⟩,
          ⟨some 4, none, .mov (.t 8)⟩] false [])
      (.ret))⟩

def F23_spindleref2_has_b0 : SCode :=
  .seq
              (.seq
                (.region [⟨some 6, none, .mov (.t 5)⟩,
                    ⟨some 7, none, .mov (.t 0)⟩,
                    ⟨some 8, none, .len false (.t 7)⟩,
                    ⟨some 9, none, .bin .lss (.t 6) (.t 8)⟩] false [])
                (.cond (.t 9)
                  (.skip)
                  (.exit 0)))
              (.seq
                (.block 1 (.seq
                    (.region [⟨some 12, none, .mov (.t 0)⟩,
                        ⟨some 13, none, .mov (.t 5)⟩,
                        ⟨some 14, none, .iaddr 1 (.t 12) (.t 13)⟩,
                        ⟨some 15, none, .load 1 false (.t 14)⟩,
                        ⟨some 16, none, .mov (.t 1)⟩,
                        ⟨some 17, none, .bin .eql (.t 15) (.t 16)⟩] false [])
                    (.cond (.t 17)
                      (.seq
                        (.region [⟨some 4, none, .mov (.c (.d (.b true)))⟩] false [])
                        (.ret))
                      (.skip))))
                (.region [⟨some 10, none, .mov (.t 5)⟩,
                    ⟨some 11, none, .bin .add (.t 10) (.c (.d (.i .i64 1)))⟩,
                    ⟨some 5, none, .mov (.t 11)⟩] false []))
/-- spindle/spindleref2.has -/
def F23_spindleref2_has : SFn := ⟨2, true, [.tmp 4],
  .seq
    (.region [⟨some 4, none, .mov (.c (.d (.b false)))⟩] false [])
    (.seq
      (.seq
        (.region [⟨some 5, none, .mov (.c (.d (.i .i64 0)))⟩] false [])
        (.block 0 (.loop [0, 1, 5] false F23_spindleref2_has_b0)))
      (.seq
        (.region [⟨some 4, none, .mov (.c (.d (.b false)))⟩] false [])
        (.ret)))⟩

def F24_slices_Index_int_int_b0 : SCode :=
  .seq
              (.region [⟨some 9, none, .bin .lss (.t 8) (.t 7)⟩] false [])
              (.seq
                (.cond (.t 9)
                  (.skip)
                  (.exit 0))
                (.seq
                  (.block 1 (.seq
                      (.region [⟨some 10, none, .mov (.t 8)⟩,
                          ⟨some 5, none, .mov (.t 10)⟩] false [])
                      (.seq
                        (.region [⟨some 11, none, .mov (.t 1)⟩,
                            ⟨some 12, none, .mov (.t 0)⟩,
                            ⟨some 13, none, .mov (.t 5)⟩,
                            ⟨some 14, none, .iaddr 1 (.t 12) (.t 13)⟩,
                            ⟨some 15, none, .load 1 false (.t 14)⟩,
                            ⟨some 16, none, .bin .eql (.t 11) (.t 15)⟩] false [])
                        (.cond (.t 16)
                          (.seq
                            (.region [⟨some 17, none, .mov (.t 5)⟩,
                                ⟨some 4, none, .mov (.t 17)⟩] false [])
                            (.ret))
                          (.skip)))))
                  (.region [⟨some 18, none, .bin .add (.t 8) (.c (.d (.i .i64 1)))⟩,
                      ⟨some 8, none, .mov (.t 18)⟩] false [])))
/-- slices.Index[[]int,int] -/
def F24_slices_Index_int_int : SFn := ⟨2, true, [.tmp 4],
  .seq
    (.region [⟨some 4, none, .mov (.c (.d (.i .i64 0)))⟩] false [])
    (.seq
      (.seq
        (.region [⟨some 6, none, .mov (.t 0)⟩,
            ⟨some 7, none, .len false (.t 6)⟩,
            ⟨some 8, none, .mov (.c (.d (.i .i64 0)))⟩] false [])
        (.block 0 (.loop [0, 1, 7, 8] false F24_slices_Index_int_int_b0)))
      (.seq
        (.region [⟨some 4, none, .mov (.c (.d (.i .i64 (-1))))⟩] false [])
        (.ret)))⟩

/-- The tables of the package isa. -/
def isaTabs : Nat → Option (List D)
  | 0 => some ([0x71, 0x69, 0x61, 0x79, 0x91, 0x89, 0x81].map fun n : Int => .i .i64 n)
  | 1 => some ([0x72, 0x6a, 0x62, 0x7a, 0x73, 0x6b, 0x63, 0x7b].map fun n : Int => .i .i64 n)
  | 2 => some ([0x00, 0x10, 0x20, 0x30, 0x40, 0x50, 0x60, 0x70, 0x90, 0xa0, 0xb0, 0xc0].map fun n : Int => .i .i64 n)
  | 3 => some ([0x10, 0x20, 0x30, 0x40, 0x50, 0x60, 0x70, 0xa0, 0xb0, 0xc0, 0xd0].map fun n : Int => .i .i64 n)
  | _ => none
end Go.Sh
