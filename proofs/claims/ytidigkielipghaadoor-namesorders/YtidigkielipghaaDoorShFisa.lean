/- Shadow functions of isa, written by tr.py. -/
import Derived.Test.YtidigkielipghaaDoorShBa
namespace Go.Sh
/-- spindle/isa.Info -/
def F11_isa_Info : SFn := ⟨1, true, true, [.cell 2 6 true, .tmp 3],
  .seq
   (.region [⟨some 2, none, .alloc [.i .i64 0, .i .i64 0, .b false, .b false, .b false, .b false]⟩,
    ⟨some 3, none, .mov (.c (.d (.i .i64 0)))⟩] false [])
   (.keep [0, 2] (.seq
   (.region [⟨some 6, none, .mov (.t 0)⟩,
    ⟨some 7, none, .call 18 [.t 6]⟩,
    ⟨some 8, none, .build [.i .i64 0, .i .i64 0, .b false, .b false, .b false, .b false] [(0, 1, .t 7), (1, 1, .c (.d (.i .i64 1)))]⟩,
    ⟨some 4, none, .alloc [.i .i64 0, .i .i64 0, .b false, .b false, .b false, .b false]⟩,
    ⟨none, none, .store 6 (.t 4) (.t 8)⟩] false [])
   (.keep [0, 2, 4] (.seq
    (.seq
    (.region [⟨some 9, none, .faddr 0 (.t 4)⟩,
     ⟨some 10, none, .load 1 false (.t 9)⟩] false [])
    (.keep [0, 2, 4, 10] (.block 0 (.seq
     (.block 10 (.seq
      (.block 9 (.seq
       (.block 8 (.seq
        (.block 7 (.seq
         (.block 6 (.seq
          (.block 5 (.seq
           (.block 4 (.seq
            (.block 3 (.seq
             (.block 2 (.seq
              (.block 1 (.seq
               (.seq
                (.seq
                (.region [⟨some 12, none, .bin .eql (.t 10) (.c (.d (.i .i64 0)))⟩,
                 ⟨some 11, none, .mov (.t 12)⟩] false [])
                (.keep [0, 2, 4, 10, 11] (.cond (.t 11)
                 (.exit 1)
                 (.skip))))
                (.keep [0, 2, 4, 10] (.seq
                (.seq
                 (.region [⟨some 14, none, .bin .eql (.t 10) (.c (.d (.i .i64 3)))⟩,
                  ⟨some 13, none, .mov (.t 14)⟩] false [])
                 (.keep [0, 2, 4, 10, 13] (.cond (.t 13)
                 (.exit 2)
                 (.skip))))
                (.keep [0, 2, 4, 10] (.seq
                 (.seq
                 (.region [⟨some 16, none, .bin .eql (.t 10) (.c (.d (.i .i64 8)))⟩,
                  ⟨some 15, none, .mov (.t 16)⟩] false [])
                 (.keep [0, 2, 4, 10, 15] (.cond (.t 15)
                  (.exit 3)
                  (.skip))))
                 (.keep [0, 2, 4, 10] (.seq
                 (.seq
                  (.region [⟨some 18, none, .bin .eql (.t 10) (.c (.d (.i .i64 6)))⟩,
                   ⟨some 17, none, .mov (.t 18)⟩] false [])
                  (.keep [0, 2, 4, 10, 17] (.cond (.t 17)
                  (.exit 4)
                  (.skip))))
                 (.keep [0, 2, 4, 10] (.seq
                  (.seq
                  (.region [⟨some 20, none, .bin .eql (.t 10) (.c (.d (.i .i64 4)))⟩,
                   ⟨some 19, none, .mov (.t 20)⟩] false [])
                  (.keep [0, 2, 4, 10, 19] (.cond (.t 19)
                   (.exit 5)
                   (.skip))))
                  (.keep [0, 2, 4, 10] (.seq
                  (.seq
                   (.region [⟨some 22, none, .bin .eql (.t 10) (.c (.d (.i .i64 5)))⟩,
                    ⟨some 21, none, .mov (.t 22)⟩] false [])
                   (.keep [0, 2, 4, 10, 21] (.cond (.t 21)
                   (.exit 6)
                   (.skip))))
                  (.keep [0, 2, 4, 10] (.seq
                   (.seq
                   (.region [⟨some 24, none, .bin .eql (.t 10) (.c (.d (.i .i64 10)))⟩,
                    ⟨some 23, none, .mov (.t 24)⟩] false [])
                   (.keep [0, 2, 4, 10, 23] (.cond (.t 23)
                    (.exit 7)
                    (.skip))))
                   (.keep [0, 2, 4, 10] (.seq
                   (.seq
                    (.region [⟨some 26, none, .bin .eql (.t 10) (.c (.d (.i .i64 2)))⟩,
                     ⟨some 25, none, .mov (.t 26)⟩] false [])
                    (.keep [0, 2, 4, 10, 25] (.cond (.t 25)
                    (.exit 8)
                    (.skip))))
                   (.keep [0, 2, 4, 10] (.seq
                    (.seq
                    (.region [⟨some 28, none, .bin .eql (.t 10) (.c (.d (.i .i64 9)))⟩,
                     ⟨some 27, none, .mov (.t 28)⟩] false [])
                    (.keep [0, 2, 4, 10, 27] (.cond (.t 27)
                     (.exit 9)
                     (.skip))))
                    (.keep [0, 2, 4, 10] (.seq
                    (.region [⟨some 30, none, .bin .eql (.t 10) (.c (.d (.i .i64 7)))⟩,
                     ⟨some 29, none, .mov (.t 30)⟩] false [])
                    (.keep [0, 2, 4, 29] (.cond (.t 29)
                     (.exit 10)
                     (.skip))))))))))))))))))))))
               (.exit 0)))
              (.keep [2] (.seq
               (.seq
               (.region [⟨some 31, none, .build [.i .i64 0, .i .i64 0, .b false, .b false, .b false, .b false] []⟩,
                ⟨none, none, .store 6 (.t 2) (.t 31)⟩,
                ⟨some 3, none, .mov (.c (.d (.i .i64 20)))⟩] false [])
               (.ret))
               (.exit 0)))))
             (.keep [0, 2, 4] (.seq
              (.seq
              (.seq
               (.region [⟨some 32, none, .mov (.t 0)⟩,
                ⟨some 33, none, .bin .and (.t 32) (.c (.d (.i .i64 240)))⟩,
                ⟨some 5, none, .mov (.t 33)⟩] false [])
               (.keep [0, 2, 4, 5] (.seq
               (.region [⟨some 34, none, .mov (.t 5)⟩,
                ⟨some 35, none, .bin .eql (.t 34) (.c (.d (.i .i64 32)))⟩,
                ⟨some 36, none, .mov (.t 35)⟩,
                ⟨some 37, (some (2, false)), .mov (.t 5)⟩,
                ⟨some 38, (some (2, false)), .bin .eql (.t 37) (.c (.d (.i .i64 48)))⟩,
                ⟨some 39, none, .pick (.t 36) (.c (.d (.b true))) (.t 38)⟩,
                ⟨some 40, none, .mov (.t 39)⟩,
                ⟨some 41, (some (6, false)), .mov (.t 5)⟩,
                ⟨some 42, (some (6, false)), .bin .eql (.t 41) (.c (.d (.i .i64 144)))⟩,
                ⟨some 43, none, .pick (.t 40) (.c (.d (.b true))) (.t 42)⟩] false [])
               (.keep [0, 2, 4, 43] (.cond (.t 43)
                (.keep [0, 2, 4] (.region [⟨some 44, none, .faddr 1 (.t 4)⟩,
                 ⟨none, none, .store 1 (.t 44) (.c (.d (.i .i64 2)))⟩] false []))
                (.skip))))))
              (.keep [0, 2, 4] (.region [⟨some 45, none, .mov (.t 0)⟩,
               ⟨some 46, none, .bin .and (.t 45) (.c (.d (.i .i64 8)))⟩,
               ⟨some 47, none, .bin .neq (.t 46) (.c (.d (.i .i64 0)))⟩,
               ⟨some 48, none, .mov (.t 0)⟩,
               ⟨some 49, none, .bin .and (.t 48) (.c (.d (.i .i64 8)))⟩,
               ⟨some 50, none, .bin .eql (.t 49) (.c (.d (.i .i64 0)))⟩,
               ⟨some 51, none, .faddr 2 (.t 4)⟩,
               ⟨none, none, .store 1 (.t 51) (.c (.d (.b true)))⟩,
               ⟨some 52, none, .faddr 3 (.t 4)⟩,
               ⟨none, none, .store 1 (.t 52) (.t 47)⟩,
               ⟨some 53, none, .faddr 5 (.t 4)⟩,
               ⟨none, none, .store 1 (.t 53) (.t 50)⟩] false [])))
              (.exit 0)))))
            (.keep [0, 2, 4] (.seq
             (.region [⟨some 54, none, .mov (.t 0)⟩,
              ⟨some 55, none, .bin .and (.t 54) (.c (.d (.i .i64 8)))⟩,
              ⟨some 56, none, .bin .neq (.t 55) (.c (.d (.i .i64 0)))⟩,
              ⟨some 57, none, .mov (.t 0)⟩,
              ⟨some 58, none, .bin .and (.t 57) (.c (.d (.i .i64 8)))⟩,
              ⟨some 59, none, .bin .eql (.t 58) (.c (.d (.i .i64 0)))⟩,
              ⟨some 60, none, .faddr 2 (.t 4)⟩,
              ⟨none, none, .store 1 (.t 60) (.c (.d (.b true)))⟩,
              ⟨some 61, none, .faddr 4 (.t 4)⟩,
              ⟨none, none, .store 1 (.t 61) (.c (.d (.b true)))⟩,
              ⟨some 62, none, .faddr 3 (.t 4)⟩,
              ⟨none, none, .store 1 (.t 62) (.t 56)⟩,
              ⟨some 63, none, .faddr 5 (.t 4)⟩,
              ⟨none, none, .store 1 (.t 63) (.t 59)⟩] false [])
             (.exit 0)))))
           (.keep [2, 4] (.region [⟨some 64, none, .faddr 1 (.t 4)⟩,
            ⟨none, none, .store 1 (.t 64) (.c (.d (.i .i64 3)))⟩] false []))))
          (.keep [2, 4] (.seq
           (.region [⟨some 65, none, .faddr 2 (.t 4)⟩,
            ⟨none, none, .store 1 (.t 65) (.c (.d (.b true)))⟩,
            ⟨some 66, none, .faddr 3 (.t 4)⟩,
            ⟨none, none, .store 1 (.t 66) (.c (.d (.b true)))⟩,
            ⟨some 67, none, .faddr 4 (.t 4)⟩,
            ⟨none, none, .store 1 (.t 67) (.c (.d (.b true)))⟩] false [])
           (.exit 0)))))
         (.keep [0, 2, 4] (.seq
          (.region [⟨some 68, none, .mov (.t 0)⟩,
           ⟨some 69, none, .bin .and (.t 68) (.c (.d (.i .i64 7)))⟩,
           ⟨some 70, none, .bin .eql (.t 69) (.c (.d (.i .i64 3)))⟩,
           ⟨some 71, none, .mov (.t 0)⟩,
           ⟨some 72, none, .bin .and (.t 71) (.c (.d (.i .i64 7)))⟩,
           ⟨some 73, none, .bin .eql (.t 72) (.c (.d (.i .i64 2)))⟩,
           ⟨some 74, none, .faddr 2 (.t 4)⟩,
           ⟨none, none, .store 1 (.t 74) (.c (.d (.b true)))⟩,
           ⟨some 75, none, .faddr 4 (.t 4)⟩,
           ⟨none, none, .store 1 (.t 75) (.c (.d (.b true)))⟩,
           ⟨some 76, none, .faddr 3 (.t 4)⟩,
           ⟨none, none, .store 1 (.t 76) (.t 70)⟩,
           ⟨some 77, none, .faddr 5 (.t 4)⟩,
           ⟨none, none, .store 1 (.t 77) (.t 73)⟩] false [])
          (.exit 0)))))
        (.keep [2, 4] (.region [⟨some 78, none, .faddr 5 (.t 4)⟩,
         ⟨none, none, .store 1 (.t 78) (.c (.d (.b true)))⟩] false []))))
       (.keep [2, 4] (.seq
        (.region [⟨some 79, none, .faddr 2 (.t 4)⟩,
         ⟨none, none, .store 1 (.t 79) (.c (.d (.b true)))⟩] false [])
        (.exit 0)))))
      (.keep [2, 4] (.seq
       (.region [⟨some 80, none, .faddr 5 (.t 4)⟩,
        ⟨none, none, .store 1 (.t 80) (.c (.d (.b true)))⟩] false [])
       (.exit 0)))))
     (.keep [0, 2, 4] (.seq
      (.region [⟨some 81, none, .mov (.t 0)⟩,
       ⟨some 82, none, .bin .eql (.t 81) (.c (.d (.i .i64 5)))⟩,
       ⟨some 83, none, .mov (.t 0)⟩,
       ⟨some 84, none, .bin .eql (.t 83) (.c (.d (.i .i64 6)))⟩,
       ⟨some 85, none, .faddr 4 (.t 4)⟩,
       ⟨none, none, .store 1 (.t 85) (.t 82)⟩,
       ⟨some 86, none, .faddr 5 (.t 4)⟩,
       ⟨none, none, .store 1 (.t 86) (.t 84)⟩] false [])
      (.exit 0)))))))
    (.keep [2, 4] (.seq
    (.region [⟨some 87, none, .load 6 true (.t 4)⟩,
     ⟨none, none, .store 6 (.t 2) (.t 87)⟩,
     ⟨some 3, none, .mov (.c (.d (.i .i64 0)))⟩] false [])
    (.ret)))))))⟩

/-- spindle/isa.form -/
def F18_isa_form : SFn := ⟨1, true, true, [.tmp 2],
  .seq
   (.region [⟨some 2, none, .mov (.c (.d (.i .i64 0)))⟩] false [])
   (.keep [0] (.seq
   (.seq
    (.region [⟨some 4, none, .mov (.t 0)⟩,
     ⟨some 5, none, .bin .lss (.t 4) (.c (.d (.i .i64 0)))⟩,
     ⟨some 6, none, .mov (.t 5)⟩,
     ⟨some 7, (some (2, false)), .mov (.t 0)⟩,
     ⟨some 8, (some (2, false)), .bin .gtr (.t 7) (.c (.d (.i .i64 255)))⟩,
     ⟨some 9, none, .pick (.t 6) (.c (.d (.b true))) (.t 8)⟩] false [])
    (.keep [0, 9] (.cond (.t 9)
    (.keep [] (.seq
     (.region [⟨some 2, none, .mov (.c (.d (.i .i64 0)))⟩] false [])
     (.ret)))
    (.skip))))
   (.keep [0] (.seq
    (.region [⟨some 10, none, .mov (.t 0)⟩,
     ⟨some 11, none, .bin .and (.t 10) (.c (.d (.i .i64 240)))⟩,
     ⟨some 3, none, .mov (.t 11)⟩] false [])
    (.keep [0, 3] (.seq
    (.seq
     (.region [⟨some 12, none, .mov (.t 0)⟩,
      ⟨some 13, none, .bin .and (.t 12) (.c (.d (.i .i64 7)))⟩] false [])
     (.keep [0, 3, 13] (.block 0 (.seq
      (.block 7 (.seq
       (.block 6 (.seq
        (.block 5 (.seq
         (.block 4 (.seq
          (.block 3 (.seq
           (.block 2 (.seq
            (.block 1 (.seq
             (.seq
             (.seq
              (.region [⟨some 15, none, .bin .eql (.t 13) (.c (.d (.i .i64 0)))⟩,
               ⟨some 14, none, .mov (.t 15)⟩] false [])
              (.keep [0, 3, 13, 14] (.cond (.t 14)
              (.exit 1)
              (.skip))))
             (.keep [0, 3, 13] (.seq
              (.seq
              (.region [⟨some 17, none, .bin .eql (.t 13) (.c (.d (.i .i64 1)))⟩,
               ⟨some 16, none, .mov (.t 17)⟩] false [])
              (.keep [0, 3, 13, 16] (.cond (.t 16)
               (.exit 2)
               (.skip))))
              (.keep [0, 3, 13] (.seq
              (.seq
               (.region [⟨some 19, none, .bin .eql (.t 13) (.c (.d (.i .i64 3)))⟩,
                ⟨some 18, none, .mov (.t 19)⟩] false [])
               (.keep [0, 3, 13, 18] (.cond (.t 18)
               (.exit 3)
               (.skip))))
              (.keep [0, 3, 13] (.seq
               (.seq
               (.region [⟨some 21, none, .bin .eql (.t 13) (.c (.d (.i .i64 2)))⟩,
                ⟨some 20, none, .mov (.t 21)⟩] false [])
               (.keep [0, 3, 13, 20] (.cond (.t 20)
                (.exit 4)
                (.skip))))
               (.keep [0, 3, 13] (.seq
               (.seq
                (.seq
                (.region [⟨some 23, none, .bin .eql (.t 13) (.c (.d (.i .i64 4)))⟩,
                 ⟨some 22, none, .mov (.t 23)⟩] false [])
                (.keep [0, 3, 13, 22] (.cond (.t 22)
                 (.skip)
                 (.keep [0, 3, 13] (.region [⟨some 24, none, .bin .eql (.t 13) (.c (.d (.i .i64 7)))⟩,
                  ⟨some 22, none, .mov (.t 24)⟩] false [])))))
                (.keep [0, 3, 13, 22] (.cond (.t 22)
                (.exit 5)
                (.skip))))
               (.keep [0, 3, 13] (.seq
                (.seq
                (.region [⟨some 26, none, .bin .eql (.t 13) (.c (.d (.i .i64 5)))⟩,
                 ⟨some 25, none, .mov (.t 26)⟩] false [])
                (.keep [0, 3, 13, 25] (.cond (.t 25)
                 (.exit 6)
                 (.skip))))
                (.keep [0, 3, 13] (.seq
                (.region [⟨some 28, none, .bin .eql (.t 13) (.c (.d (.i .i64 6)))⟩,
                 ⟨some 27, none, .mov (.t 28)⟩] false [])
                (.keep [0, 3, 27] (.cond (.t 27)
                 (.exit 7)
                 (.skip))))))))))))))))
             (.exit 0)))
            (.keep [0] (.seq
            (.seq
             (.region [⟨some 29, none, .mov (.t 0)⟩,
              ⟨some 30, none, .bin .eql (.t 29) (.c (.d (.i .i64 24)))⟩] false [])
             (.keep [30] (.cond (.t 30)
             (.keep [] (.seq
              (.region [⟨some 2, none, .mov (.c (.d (.i .i64 10)))⟩] false [])
              (.ret)))
             (.skip))))
            (.exit 0)))))
           (.keep [0] (.seq
           (.seq
            (.region [⟨some 31, none, .slcA 7 1 (.g 0) none none none⟩,
             ⟨some 32, none, .mov (.t 0)⟩,
             ⟨some 33, none, .call 22 [.t 31, .t 32]⟩] false [])
            (.keep [33] (.cond (.t 33)
            (.keep [] (.seq
             (.region [⟨some 2, none, .mov (.c (.d (.i .i64 4)))⟩] false [])
             (.ret)))
            (.skip))))
           (.exit 0)))))
          (.keep [0] (.seq
          (.region [⟨some 34, none, .mov (.t 0)⟩,
           ⟨some 35, none, .bin .eql (.t 34) (.c (.d (.i .i64 219)))⟩,
           ⟨some 36, none, .mov (.t 35)⟩,
           ⟨some 37, (some (2, false)), .mov (.t 0)⟩,
           ⟨some 38, (some (2, false)), .bin .eql (.t 37) (.c (.d (.i .i64 195)))⟩,
           ⟨some 39, none, .pick (.t 36) (.c (.d (.b true))) (.t 38)⟩] false [])
          (.keep [0, 39] (.cond (.t 39)
           (.keep [] (.seq
           (.region [⟨some 2, none, .mov (.c (.d (.i .i64 6)))⟩] false [])
           (.ret)))
           (.skip)))))))
         (.keep [0] (.seq
         (.seq
          (.region [⟨some 40, none, .slcA 8 1 (.g 1) none none none⟩,
           ⟨some 41, none, .mov (.t 0)⟩,
           ⟨some 42, none, .call 22 [.t 40, .t 41]⟩] false [])
          (.keep [42] (.cond (.t 42)
          (.keep [] (.seq
           (.region [⟨some 2, none, .mov (.c (.d (.i .i64 5)))⟩] false [])
           (.ret)))
          (.skip))))
         (.exit 0)))))
        (.keep [0, 3] (.seq
        (.seq
         (.seq
         (.region [⟨some 43, none, .mov (.t 0)⟩,
          ⟨some 44, none, .bin .eql (.t 43) (.c (.d (.i .i64 132)))⟩,
          ⟨some 45, none, .mov (.t 44)⟩,
          ⟨some 46, (some (2, false)), .mov (.t 0)⟩,
          ⟨some 47, (some (2, false)), .bin .eql (.t 46) (.c (.d (.i .i64 135)))⟩,
          ⟨some 48, none, .pick (.t 45) (.c (.d (.b true))) (.t 47)⟩,
          ⟨some 49, none, .mov (.t 48)⟩,
          ⟨some 50, (some (6, false)), .mov (.t 0)⟩,
          ⟨some 51, (some (6, false)), .bin .eql (.t 50) (.c (.d (.i .i64 212)))⟩,
          ⟨some 52, none, .pick (.t 49) (.c (.d (.b true))) (.t 51)⟩,
          ⟨some 53, none, .mov (.t 52)⟩,
          ⟨some 54, (some (10, false)), .mov (.t 0)⟩,
          ⟨some 55, (some (10, false)), .bin .eql (.t 54) (.c (.d (.i .i64 220)))⟩,
          ⟨some 56, none, .pick (.t 53) (.c (.d (.b true))) (.t 55)⟩,
          ⟨some 57, none, .mov (.t 56)⟩,
          ⟨some 58, (some (14, false)), .mov (.t 0)⟩,
          ⟨some 59, (some (14, false)), .bin .eql (.t 58) (.c (.d (.i .i64 215)))⟩,
          ⟨some 60, none, .pick (.t 57) (.c (.d (.b true))) (.t 59)⟩] false [])
         (.keep [3, 60] (.cond (.t 60)
          (.keep [] (.seq
          (.region [⟨some 2, none, .mov (.c (.d (.i .i64 2)))⟩] false [])
          (.ret)))
          (.skip))))
         (.keep [3] (.seq
         (.region [⟨some 61, none, .slcA 12 1 (.g 2) none none none⟩,
          ⟨some 62, none, .mov (.t 3)⟩,
          ⟨some 63, none, .call 22 [.t 61, .t 62]⟩] false [])
         (.keep [63] (.cond (.t 63)
          (.keep [] (.seq
          (.region [⟨some 2, none, .mov (.c (.d (.i .i64 3)))⟩] false [])
          (.ret)))
          (.skip))))))
        (.exit 0)))))
       (.keep [0, 3] (.seq
       (.region [⟨some 64, none, .mov (.t 0)⟩] false [])
       (.keep [0, 3, 64] (.block 8 (.seq
        (.region [⟨some 66, none, .bin .eql (.t 64) (.c (.d (.i .i64 133)))⟩,
         ⟨some 65, none, .mov (.t 66)⟩] false [])
        (.keep [0, 3, 64, 65] (.cond (.t 65)
         (.keep [] (.seq
         (.region [⟨some 2, none, .mov (.c (.d (.i .i64 9)))⟩] false [])
         (.ret)))
         (.keep [0, 3, 64] (.seq
         (.region [⟨some 68, none, .bin .eql (.t 64) (.c (.d (.i .i64 149)))⟩,
          ⟨some 67, none, .mov (.t 68)⟩] false [])
         (.keep [0, 3, 67] (.cond (.t 67)
          (.keep [] (.seq
          (.region [⟨some 2, none, .mov (.c (.d (.i .i64 1)))⟩] false [])
          (.ret)))
          (.skip))))))))))))))
      (.keep [0, 3] (.seq
      (.seq
       (.seq
       (.region [⟨some 69, none, .mov (.t 0)⟩,
        ⟨some 70, none, .bin .eql (.t 69) (.c (.d (.i .i64 5)))⟩,
        ⟨some 71, none, .mov (.t 70)⟩,
        ⟨some 72, (some (2, false)), .mov (.t 0)⟩,
        ⟨some 73, (some (2, false)), .bin .eql (.t 72) (.c (.d (.i .i64 6)))⟩,
        ⟨some 74, none, .pick (.t 71) (.c (.d (.b true))) (.t 73)⟩] false [])
       (.keep [3, 74] (.cond (.t 74)
        (.keep [] (.seq
        (.region [⟨some 2, none, .mov (.c (.d (.i .i64 7)))⟩] false [])
        (.ret)))
        (.skip))))
       (.keep [3] (.seq
       (.region [⟨some 75, none, .slcA 11 1 (.g 3) none none none⟩,
        ⟨some 76, none, .mov (.t 3)⟩,
        ⟨some 77, none, .call 22 [.t 75, .t 76]⟩] false [])
       (.keep [77] (.cond (.t 77)
        (.keep [] (.seq
        (.region [⟨some 2, none, .mov (.c (.d (.i .i64 8)))⟩] false [])
        (.ret)))
        (.skip))))))
      (.exit 0)))))))
    (.keep [] (.seq
     (.region [⟨some 2, none, .mov (.c (.d (.i .i64 0)))⟩] false [])
     (.ret)))))))))⟩

def F27_isa_May_r0 : List SOper := [⟨some 16, none, .faddr 0 (.t 1)⟩,
  ⟨some 17, none, .load 1 false (.t 16)⟩,
  ⟨some 18, none, .bin .eql (.t 17) (.c (.d (.i .i64 133)))⟩,
  ⟨some 19, none, .mov (.t 18)⟩,
  ⟨some 20, (some (3, false)), .faddr 0 (.t 1)⟩,
  ⟨some 21, (some (3, false)), .load 1 false (.t 20)⟩,
  ⟨some 22, (some (3, false)), .bin .eql (.t 21) (.c (.d (.i .i64 24)))⟩,
  ⟨some 23, none, .pick (.t 19) (.c (.d (.b true))) (.t 22)⟩,
  ⟨some 5, none, .mov (.t 23)⟩]
def F27_isa_May_r1 : List SOper := [⟨some 24, none, .faddr 4 (.t 1)⟩,
  ⟨some 25, none, .load 1 false (.t 24)⟩,
  ⟨some 26, none, .bin .geq (.t 25) (.c (.d (.i .i64 (-2147483648))))⟩,
  ⟨some 27, none, .mov (.t 26)⟩,
  ⟨some 28, (some (3, true)), .faddr 4 (.t 1)⟩,
  ⟨some 29, (some (3, true)), .load 1 false (.t 28)⟩,
  ⟨some 30, (some (3, true)), .bin .lss (.t 29) (.c (.d (.i .i64 2147483648)))⟩,
  ⟨some 31, none, .pick (.t 27) (.t 30) (.c (.d (.b false)))⟩,
  ⟨some 32, none, .mov (.t 31)⟩,
  ⟨some 33, (some (8, false)), .faddr 0 (.t 1)⟩,
  ⟨some 34, (some (8, false)), .load 1 false (.t 33)⟩,
  ⟨some 35, (some (8, false)), .bin .eql (.t 34) (.c (.d (.i .i64 24)))⟩,
  ⟨some 36, (some (8, false)), .mov (.t 35)⟩,
  ⟨some 37, (some (12, true)), .faddr 2 (.t 1)⟩,
  ⟨some 38, (some (12, true)), .load 1 false (.t 37)⟩,
  ⟨some 39, (some (12, true)), .bin .eql (.t 38) (.c (.d (.i .i64 0)))⟩,
  ⟨some 40, (some (8, false)), .pick (.t 36) (.t 39) (.c (.d (.b false)))⟩,
  ⟨some 41, none, .pick (.t 32) (.c (.d (.b true))) (.t 40)⟩,
  ⟨some 6, none, .mov (.t 41)⟩]
def F27_isa_May_r2 : List SOper := [⟨some 43, none, .faddr 2 (.t 3)⟩,
  ⟨some 44, none, .load 1 false (.t 43)⟩,
  ⟨some 45, none, .mov (.t 44)⟩,
  ⟨some 46, (some (2, true)), .faddr 1 (.t 1)⟩,
  ⟨some 47, (some (2, true)), .load 1 false (.t 46)⟩,
  ⟨some 48, (some (2, true)), .bin .lss (.t 47) (.c (.d (.i .i64 0)))⟩,
  ⟨some 49, (some (2, true)), .mov (.t 48)⟩,
  ⟨some 50, (some (6, false)), .faddr 1 (.t 1)⟩,
  ⟨some 51, (some (6, false)), .load 1 false (.t 50)⟩,
  ⟨some 52, (some (6, false)), .bin .gtr (.t 51) (.c (.d (.i .i64 10)))⟩,
  ⟨some 53, (some (2, true)), .pick (.t 49) (.c (.d (.b true))) (.t 52)⟩,
  ⟨some 54, none, .pick (.t 45) (.t 53) (.c (.d (.b false)))⟩,
  ⟨some 55, none, .mov (.t 54)⟩,
  ⟨some 56, (some (12, false)), .faddr 2 (.t 3)⟩,
  ⟨some 57, (some (12, false)), .load 1 false (.t 56)⟩,
  ⟨some 58, (some (12, false)), .un .not (.t 57)⟩,
  ⟨some 59, (some (12, false)), .mov (.t 58)⟩,
  ⟨some 60, (some (16, true)), .faddr 1 (.t 1)⟩,
  ⟨some 61, (some (16, true)), .load 1 false (.t 60)⟩,
  ⟨some 62, (some (16, true)), .bin .neq (.t 61) (.c (.d (.i .i64 0)))⟩,
  ⟨some 63, (some (12, false)), .pick (.t 59) (.t 62) (.c (.d (.b false)))⟩,
  ⟨some 64, none, .pick (.t 55) (.c (.d (.b true))) (.t 63)⟩,
  ⟨some 42, none, .mov (.t 64)⟩]
def F27_isa_May_r3 : List SOper := [⟨some 66, none, .faddr 3 (.t 3)⟩,
  ⟨some 67, none, .load 1 false (.t 66)⟩,
  ⟨some 68, none, .mov (.t 67)⟩,
  ⟨some 69, (some (2, true)), .faddr 2 (.t 1)⟩,
  ⟨some 70, (some (2, true)), .load 1 false (.t 69)⟩,
  ⟨some 71, (some (2, true)), .bin .lss (.t 70) (.c (.d (.i .i64 0)))⟩,
  ⟨some 72, (some (2, true)), .mov (.t 71)⟩,
  ⟨some 73, (some (6, false)), .faddr 2 (.t 1)⟩,
  ⟨some 74, (some (6, false)), .load 1 false (.t 73)⟩,
  ⟨some 75, (some (6, false)), .bin .gtr (.t 74) (.c (.d (.i .i64 10)))⟩,
  ⟨some 76, (some (2, true)), .pick (.t 72) (.c (.d (.b true))) (.t 75)⟩,
  ⟨some 77, none, .pick (.t 68) (.t 76) (.c (.d (.b false)))⟩,
  ⟨some 65, none, .mov (.t 77)⟩]
def F27_isa_May_r4 : List SOper := [⟨some 79, none, .mov (.t 5)⟩,
  ⟨some 80, none, .mov (.t 79)⟩,
  ⟨some 81, (some (1, true)), .faddr 2 (.t 1)⟩,
  ⟨some 82, (some (1, true)), .load 1 false (.t 81)⟩,
  ⟨some 83, (some (1, true)), .bin .neq (.t 82) (.c (.d (.i .i64 0)))⟩,
  ⟨some 84, none, .pick (.t 80) (.t 83) (.c (.d (.b false)))⟩,
  ⟨some 85, none, .mov (.t 84)⟩,
  ⟨some 86, (some (6, true)), .faddr 2 (.t 1)⟩,
  ⟨some 87, (some (6, true)), .load 1 false (.t 86)⟩,
  ⟨some 88, (some (6, true)), .bin .neq (.t 87) (.c (.d (.i .i64 1)))⟩,
  ⟨some 89, none, .pick (.t 85) (.t 88) (.c (.d (.b false)))⟩,
  ⟨some 90, none, .mov (.t 89)⟩,
  ⟨some 91, (some (11, false)), .faddr 3 (.t 3)⟩,
  ⟨some 92, (some (11, false)), .load 1 false (.t 91)⟩,
  ⟨some 93, (some (11, false)), .un .not (.t 92)⟩,
  ⟨some 94, (some (11, false)), .mov (.t 93)⟩,
  ⟨some 95, (some (15, true)), .mov (.t 5)⟩,
  ⟨some 96, (some (15, true)), .un .not (.t 95)⟩,
  ⟨some 97, (some (11, false)), .pick (.t 94) (.t 96) (.c (.d (.b false)))⟩,
  ⟨some 98, (some (11, false)), .mov (.t 97)⟩,
  ⟨some 99, (some (19, true)), .faddr 2 (.t 1)⟩,
  ⟨some 100, (some (19, true)), .load 1 false (.t 99)⟩,
  ⟨some 101, (some (19, true)), .bin .neq (.t 100) (.c (.d (.i .i64 0)))⟩,
  ⟨some 102, (some (11, false)), .pick (.t 98) (.t 101) (.c (.d (.b false)))⟩,
  ⟨some 103, none, .pick (.t 90) (.c (.d (.b true))) (.t 102)⟩,
  ⟨some 78, none, .mov (.t 103)⟩]
def F27_isa_May_r5 : List SOper := [⟨some 105, none, .faddr 4 (.t 3)⟩,
  ⟨some 106, none, .load 1 false (.t 105)⟩,
  ⟨some 107, none, .mov (.t 106)⟩,
  ⟨some 108, (some (2, true)), .faddr 3 (.t 1)⟩,
  ⟨some 109, (some (2, true)), .load 1 false (.t 108)⟩,
  ⟨some 110, (some (2, true)), .bin .lss (.t 109) (.c (.d (.i .i64 (-32768))))⟩,
  ⟨some 111, (some (2, true)), .mov (.t 110)⟩,
  ⟨some 112, (some (6, false)), .faddr 3 (.t 1)⟩,
  ⟨some 113, (some (6, false)), .load 1 false (.t 112)⟩,
  ⟨some 114, (some (6, false)), .bin .geq (.t 113) (.c (.d (.i .i64 32768)))⟩,
  ⟨some 115, (some (2, true)), .pick (.t 111) (.c (.d (.b true))) (.t 114)⟩,
  ⟨some 116, none, .pick (.t 107) (.t 115) (.c (.d (.b false)))⟩,
  ⟨some 117, none, .mov (.t 116)⟩,
  ⟨some 118, (some (12, false)), .faddr 4 (.t 3)⟩,
  ⟨some 119, (some (12, false)), .load 1 false (.t 118)⟩,
  ⟨some 120, (some (12, false)), .un .not (.t 119)⟩,
  ⟨some 121, (some (12, false)), .mov (.t 120)⟩,
  ⟨some 122, (some (16, true)), .load 5 true (.t 1)⟩,
  ⟨some 123, (some (16, true)), .call 28 [.t 122]⟩,
  ⟨some 124, (some (16, true)), .un .not (.t 123)⟩,
  ⟨some 125, (some (12, false)), .pick (.t 121) (.t 124) (.c (.d (.b false)))⟩,
  ⟨some 126, none, .pick (.t 117) (.c (.d (.b true))) (.t 125)⟩,
  ⟨some 104, none, .mov (.t 126)⟩]
def F27_isa_May_r6 : List SOper := [⟨some 128, none, .faddr 5 (.t 3)⟩,
  ⟨some 129, none, .load 1 false (.t 128)⟩,
  ⟨some 130, none, .mov (.t 129)⟩,
  ⟨some 131, (some (2, true)), .mov (.t 6)⟩,
  ⟨some 132, (some (2, true)), .un .not (.t 131)⟩,
  ⟨some 133, none, .pick (.t 130) (.t 132) (.c (.d (.b false)))⟩,
  ⟨some 134, none, .mov (.t 133)⟩,
  ⟨some 135, (some (6, false)), .faddr 5 (.t 3)⟩,
  ⟨some 136, (some (6, false)), .load 1 false (.t 135)⟩,
  ⟨some 137, (some (6, false)), .un .not (.t 136)⟩,
  ⟨some 138, (some (6, false)), .mov (.t 137)⟩,
  ⟨some 139, (some (10, true)), .load 5 true (.t 1)⟩,
  ⟨some 140, (some (10, true)), .call 29 [.t 139]⟩,
  ⟨some 141, (some (10, true)), .un .not (.t 140)⟩,
  ⟨some 142, (some (6, false)), .pick (.t 138) (.t 141) (.c (.d (.b false)))⟩,
  ⟨some 143, none, .pick (.t 134) (.c (.d (.b true))) (.t 142)⟩,
  ⟨some 127, none, .mov (.t 143)⟩]
/-- spindle/isa.May -/
def F27_isa_May : SFn := ⟨1, true, true, [.tmp 2],
  .seq
   (.region [⟨some 1, none, .box (.t 0)⟩,
    ⟨some 2, none, .mov (.c (.d (.i .i64 0)))⟩] false [])
   (.keep [1] (.seq
   (.region [⟨some 8, none, .faddr 0 (.t 1)⟩,
    ⟨some 9, none, .load 1 false (.t 8)⟩,
    ⟨some 10, none, .call 11 [.t 9]⟩,
    ⟨some 7, none, .mov (.t 10)⟩,
    ⟨some 11, none, .extract 0 (.t 7)⟩,
    ⟨some 12, none, .extract 1 (.t 7)⟩,
    ⟨some 3, none, .alloc [.i .i64 0, .i .i64 0, .b false, .b false, .b false, .b false]⟩,
    ⟨none, none, .store 6 (.t 3) (.t 11)⟩,
    ⟨some 4, none, .mov (.t 12)⟩] false [])
   (.keep [1, 3, 4] (.seq
    (.seq
    (.region [⟨some 13, none, .mov (.t 4)⟩,
     ⟨some 14, none, .bin .neq (.t 13) (.c (.d (.i .i64 0)))⟩] false [])
    (.keep [1, 3, 4, 14] (.cond (.t 14)
     (.keep [4] (.seq
     (.region [⟨some 15, none, .mov (.t 4)⟩,
      ⟨some 2, none, .mov (.t 15)⟩] false [])
     (.ret)))
     (.skip))))
    (.keep [1, 3] (.seq
    (.region F27_isa_May_r0 false [])
    (.keep [1, 3, 5] (.seq
     (.region F27_isa_May_r1 false [])
     (.keep [1, 3, 5, 6] (.seq
     (.block 0 (.seq
      (.region F27_isa_May_r2 false [])
      (.keep [1, 3, 5, 6, 42] (.cond (.t 42)
       (.skip)
       (.keep [1, 3, 5, 6] (.seq
       (.region F27_isa_May_r3 false [])
       (.keep [1, 3, 5, 6, 65] (.cond (.t 65)
        (.skip)
        (.keep [1, 3, 5, 6] (.seq
        (.region F27_isa_May_r4 false [])
        (.keep [1, 3, 6, 78] (.cond (.t 78)
         (.skip)
         (.keep [1, 3, 6] (.seq
         (.region F27_isa_May_r5 false [])
         (.keep [1, 3, 6, 104] (.cond (.t 104)
          (.skip)
          (.keep [1, 3, 6] (.seq
          (.region F27_isa_May_r6 false [])
          (.keep [127] (.cond (.t 127)
           (.skip)
           (.keep [] (.seq
           (.region [⟨some 2, none, .mov (.c (.d (.i .i64 0)))⟩] false [])
           (.ret)))))))))))))))))))))))
     (.keep [] (.seq
      (.region [⟨some 2, none, .mov (.c (.d (.i .i64 21)))⟩] false [])
      (.ret)))))))))))))⟩

def F28_isa_offs_r0 : List SOper := [⟨some 16, none, .mov (.t 3)⟩,
  ⟨some 17, none, .bin .eql (.t 16) (.c (.d (.i .i64 48)))⟩,
  ⟨some 18, none, .mov (.t 17)⟩,
  ⟨some 19, (some (2, false)), .mov (.t 3)⟩,
  ⟨some 20, (some (2, false)), .bin .eql (.t 19) (.c (.d (.i .i64 144)))⟩,
  ⟨some 21, none, .pick (.t 18) (.c (.d (.b true))) (.t 20)⟩,
  ⟨some 15, none, .mov (.t 21)⟩]
def F28_isa_offs_r1 : List SOper := [⟨some 26, none, .mov (.t 3)⟩,
  ⟨some 27, none, .bin .eql (.t 26) (.c (.d (.i .i64 176)))⟩,
  ⟨some 28, none, .mov (.t 27)⟩,
  ⟨some 29, (some (2, true)), .faddr 0 (.t 1)⟩,
  ⟨some 30, (some (2, true)), .load 1 false (.t 29)⟩,
  ⟨some 31, (some (2, true)), .bin .and (.t 30) (.c (.d (.i .i64 8)))⟩,
  ⟨some 32, (some (2, true)), .bin .neq (.t 31) (.c (.d (.i .i64 0)))⟩,
  ⟨some 33, none, .pick (.t 28) (.t 32) (.c (.d (.b false)))⟩,
  ⟨some 25, none, .mov (.t 33)⟩]
def F28_isa_offs_r2 : List SOper := [⟨some 34, none, .faddr 3 (.t 1)⟩,
  ⟨some 35, none, .load 1 false (.t 34)⟩,
  ⟨some 36, none, .bin .eql (.t 35) (.c (.d (.i .i64 8)))⟩,
  ⟨some 37, none, .mov (.t 36)⟩,
  ⟨some 38, (some (3, false)), .faddr 3 (.t 1)⟩,
  ⟨some 39, (some (3, false)), .load 1 false (.t 38)⟩,
  ⟨some 40, (some (3, false)), .bin .eql (.t 39) (.c (.d (.i .i64 16)))⟩,
  ⟨some 41, none, .pick (.t 37) (.c (.d (.b true))) (.t 40)⟩,
  ⟨some 42, none, .mov (.t 41)⟩,
  ⟨some 43, (some (8, false)), .faddr 3 (.t 1)⟩,
  ⟨some 44, (some (8, false)), .load 1 false (.t 43)⟩,
  ⟨some 45, (some (8, false)), .bin .eql (.t 44) (.c (.d (.i .i64 32)))⟩,
  ⟨some 46, (some (8, false)), .mov (.t 45)⟩,
  ⟨some 47, (some (12, true)), .faddr 0 (.t 1)⟩,
  ⟨some 48, (some (12, true)), .load 1 false (.t 47)⟩,
  ⟨some 49, (some (12, true)), .bin .and (.t 48) (.c (.d (.i .i64 7)))⟩,
  ⟨some 50, (some (12, true)), .bin .eql (.t 49) (.c (.d (.i .i64 7)))⟩,
  ⟨some 51, (some (8, false)), .pick (.t 46) (.t 50) (.c (.d (.b false)))⟩,
  ⟨some 52, none, .pick (.t 42) (.c (.d (.b true))) (.t 51)⟩,
  ⟨some 2, none, .mov (.t 52)⟩]
/-- spindle/isa.offs -/
def F28_isa_offs : SFn := ⟨1, true, true, [.tmp 2],
  .seq
   (.region [⟨some 1, none, .box (.t 0)⟩,
    ⟨some 2, none, .mov (.c (.d (.b false)))⟩] false [])
   (.keep [1] (.seq
   (.seq
    (.region [⟨some 4, none, .faddr 3 (.t 1)⟩,
     ⟨some 5, none, .load 1 false (.t 4)⟩,
     ⟨some 6, none, .bin .eql (.t 5) (.c (.d (.i .i64 0)))⟩] false [])
    (.keep [1, 6] (.cond (.t 6)
    (.keep [] (.seq
     (.region [⟨some 2, none, .mov (.c (.d (.b true)))⟩] false [])
     (.ret)))
    (.skip))))
   (.keep [1] (.seq
    (.seq
    (.region [⟨some 7, none, .faddr 0 (.t 1)⟩,
     ⟨some 8, none, .load 1 false (.t 7)⟩,
     ⟨some 9, none, .bin .and (.t 8) (.c (.d (.i .i64 240)))⟩,
     ⟨some 3, none, .mov (.t 9)⟩] false [])
    (.keep [1, 3] (.block 0 (.seq
     (.region [⟨some 11, none, .faddr 0 (.t 1)⟩,
      ⟨some 12, none, .load 1 false (.t 11)⟩,
      ⟨some 13, none, .call 18 [.t 12]⟩,
      ⟨some 14, none, .bin .neq (.t 13) (.c (.d (.i .i64 3)))⟩,
      ⟨some 10, none, .mov (.t 14)⟩] false [])
     (.keep [1, 3, 10] (.cond (.t 10)
      (.keep [] (.seq
      (.region [⟨some 2, none, .mov (.c (.d (.b false)))⟩] false [])
      (.ret)))
      (.keep [1, 3] (.seq
      (.region F28_isa_offs_r0 false [])
      (.keep [1, 3, 15] (.cond (.t 15)
       (.keep [1] (.seq
       (.region [⟨some 22, none, .faddr 3 (.t 1)⟩,
        ⟨some 23, none, .load 1 false (.t 22)⟩,
        ⟨some 24, none, .bin .eql (.t 23) (.c (.d (.i .i64 1)))⟩,
        ⟨some 2, none, .mov (.t 24)⟩] false [])
       (.ret)))
       (.keep [1, 3] (.seq
       (.region F28_isa_offs_r1 false [])
       (.keep [1, 25] (.cond (.t 25)
        (.keep [1] (.seq
        (.region F28_isa_offs_r2 false [])
        (.ret)))
        (.skip)))))))))))))))
    (.keep [] (.seq
    (.region [⟨some 2, none, .mov (.c (.d (.b false)))⟩] false [])
    (.ret)))))))⟩

def F29_isa_imms_r0 : List SOper := [⟨some 4, none, .faddr 0 (.t 1)⟩,
  ⟨some 5, none, .load 1 false (.t 4)⟩,
  ⟨some 6, none, .bin .eql (.t 5) (.c (.d (.i .i64 219)))⟩,
  ⟨some 7, none, .mov (.t 6)⟩,
  ⟨some 8, (some (3, false)), .faddr 0 (.t 1)⟩,
  ⟨some 9, (some (3, false)), .load 1 false (.t 8)⟩,
  ⟨some 10, (some (3, false)), .bin .eql (.t 9) (.c (.d (.i .i64 195)))⟩,
  ⟨some 11, none, .pick (.t 7) (.c (.d (.b true))) (.t 10)⟩,
  ⟨some 3, none, .mov (.t 11)⟩]
def F29_isa_imms_r1 : List SOper := [⟨some 17, none, .faddr 0 (.t 1)⟩,
  ⟨some 18, none, .load 1 false (.t 17)⟩,
  ⟨some 19, none, .call 18 [.t 18]⟩,
  ⟨some 20, none, .bin .eql (.t 19) (.c (.d (.i .i64 2)))⟩,
  ⟨some 21, none, .mov (.t 20)⟩,
  ⟨some 22, (some (4, true)), .faddr 0 (.t 1)⟩,
  ⟨some 23, (some (4, true)), .load 1 false (.t 22)⟩,
  ⟨some 24, (some (4, true)), .bin .and (.t 23) (.c (.d (.i .i64 240)))⟩,
  ⟨some 25, (some (4, true)), .bin .eql (.t 24) (.c (.d (.i .i64 208)))⟩,
  ⟨some 26, none, .pick (.t 21) (.t 25) (.c (.d (.b false)))⟩,
  ⟨some 16, none, .mov (.t 26)⟩]
def F29_isa_imms_r2 : List SOper := [⟨some 27, none, .faddr 4 (.t 1)⟩,
  ⟨some 28, none, .load 1 false (.t 27)⟩,
  ⟨some 29, none, .bin .eql (.t 28) (.c (.d (.i .i64 16)))⟩,
  ⟨some 30, none, .mov (.t 29)⟩,
  ⟨some 31, (some (3, false)), .faddr 4 (.t 1)⟩,
  ⟨some 32, (some (3, false)), .load 1 false (.t 31)⟩,
  ⟨some 33, (some (3, false)), .bin .eql (.t 32) (.c (.d (.i .i64 32)))⟩,
  ⟨some 34, none, .pick (.t 30) (.c (.d (.b true))) (.t 33)⟩,
  ⟨some 35, none, .mov (.t 34)⟩,
  ⟨some 36, (some (8, false)), .faddr 4 (.t 1)⟩,
  ⟨some 37, (some (8, false)), .load 1 false (.t 36)⟩,
  ⟨some 38, (some (8, false)), .bin .eql (.t 37) (.c (.d (.i .i64 64)))⟩,
  ⟨some 39, none, .pick (.t 35) (.c (.d (.b true))) (.t 38)⟩,
  ⟨some 2, none, .mov (.t 39)⟩]
/-- spindle/isa.imms -/
def F29_isa_imms : SFn := ⟨1, true, true, [.tmp 2],
  .seq
   (.region [⟨some 1, none, .box (.t 0)⟩,
    ⟨some 2, none, .mov (.c (.d (.b false)))⟩] false [])
   (.keep [1] (.seq
   (.block 0 (.seq
    (.region F29_isa_imms_r0 false [])
    (.keep [1, 3] (.cond (.t 3)
     (.keep [1] (.seq
     (.region [⟨some 12, none, .slcA 10 1 (.g 4) none none none⟩,
      ⟨some 13, none, .faddr 4 (.t 1)⟩,
      ⟨some 14, none, .load 1 false (.t 13)⟩,
      ⟨some 15, none, .call 22 [.t 12, .t 14]⟩,
      ⟨some 2, none, .mov (.t 15)⟩] true [0, 0, 2, 7, 15])
     (.ret)))
     (.keep [1] (.seq
     (.region F29_isa_imms_r1 false [])
     (.keep [1, 16] (.cond (.t 16)
      (.keep [1] (.seq
      (.region F29_isa_imms_r2 false [])
      (.ret)))
      (.skip)))))))))
   (.keep [1] (.seq
    (.region [⟨some 40, none, .faddr 4 (.t 1)⟩,
     ⟨some 41, none, .load 1 false (.t 40)⟩,
     ⟨some 42, none, .bin .eql (.t 41) (.c (.d (.i .i64 0)))⟩,
     ⟨some 2, none, .mov (.t 42)⟩] false [])
    (.ret)))))⟩

end Go.Sh
