import Derived.Test.YtnncaaakhfaacaaAbEv
/-
  The program's functions in slim code, as a program of ours printed them; what they have to do with the given program is proved in the text Impl.
-/
namespace Go.Ab

/- typedholes/typedholeslaw13.SubstComposes -/
def g4 : AFunc := ⟨2, 42, [.t 4],
  (.seq
   (.reg [⟨some 4, none, [.c (.pv (.bool false))], .v (.mv)⟩] [0, 1])
   (.seq
    (.seq
     (.reg [⟨some 10, none, [], .callP 14⟩,
       ⟨some 11, none, [.t 10], .v (.un .not)⟩] [0, 1, 11])
     (.cond (.t 11)
      (.seq
       (.reg [⟨some 4, none, [.c (.pv (.bool false))], .v (.mv)⟩] [4])
       .ret)
      .skip))
    (.seq
     (.seq
      (.reg [⟨some 12, none, [.t 1], .v (.mv)⟩,
        ⟨some 13, none, [.t 12], .callP 15⟩,
        ⟨some 14, none, [.t 13], .v (.un .not)⟩] [0, 1, 14])
      (.cond (.t 14)
       (.seq
        (.reg [⟨some 4, none, [.c (.pv (.bool true))], .v (.mv)⟩] [4])
        .ret)
       .skip))
     (.seq
      (.reg [⟨some 16, none, [.t 0], .v (.mv)⟩,
        ⟨some 17, none, [.t 1], .v (.mv)⟩,
        ⟨some 18, none, [.t 16, .t 17], .callI 16 []⟩,
        ⟨some 15, none, [.t 18], .v (.mv)⟩,
        ⟨some 19, none, [.t 15], .v (.ext 0)⟩,
        ⟨some 20, none, [.t 15], .v (.ext 1)⟩,
        ⟨some 21, none, [.t 15], .v (.ext 2)⟩,
        ⟨some 22, none, [.t 15], .v (.ext 3)⟩,
        ⟨some 7, none, [], .alloc 7 [.int .i64 0, .str [], .int .i64 0, .int .i64 0, .lst []]⟩,
        ⟨some 5, none, [.t 19], .v (.mv)⟩,
        ⟨some 6, none, [.t 20], .v (.mv)⟩,
        ⟨none, none, [.t 7, .t 21], .storeL 7 0 5⟩,
        ⟨some 8, none, [.t 22], .v (.mv)⟩] [5, 6, 7])
      (.seq
       (.reg [⟨some 23, none, [.t 5], .v (.mv)⟩,
         ⟨some 24, none, [.t 6], .v (.mv)⟩,
         ⟨some 25, none, [.t 23, .t 24], .callP 17⟩,
         ⟨some 9, none, [.t 25], .v (.mv)⟩] [5, 6, 7, 9])
       (.seq
        (.reg [⟨some 26, none, [.t 9], .v (.mv)⟩,
          ⟨some 27, none, [.t 5], .v (.mv)⟩,
          ⟨some 28, none, [.t 6], .v (.mv)⟩,
          ⟨some 29, none, [.t 27, .t 28], .callP 19⟩,
          ⟨some 30, none, [.t 26, .t 29], .callP 18⟩,
          ⟨some 31, none, [.t 30], .v (.mv)⟩,
          ⟨some 32, some (31, true), [.t 9], .v (.mv)⟩,
          ⟨some 33, some (31, true), [.t 7], .loadL 7 0 5 true⟩,
          ⟨some 34, some (31, true), [.t 32, .t 33], .callP 21⟩,
          ⟨some 35, some (31, true), [.t 6], .v (.mv)⟩,
          ⟨some 36, some (31, true), [.t 5], .v (.mv)⟩,
          ⟨some 37, some (31, true), [.t 7], .loadL 7 0 5 true⟩,
          ⟨some 38, some (31, true), [.t 36, .t 37], .callP 22⟩,
          ⟨some 39, some (31, true), [.t 35, .t 38], .callP 22⟩,
          ⟨some 40, some (31, true), [.t 34, .t 39], .callP 20⟩,
          ⟨some 41, none, [.t 31, .t 40, .c (.pv (.bool false))], .v (.pick)⟩,
          ⟨some 4, none, [.t 41], .v (.mv)⟩] [4])
        .ret))))))⟩

/- typedholes/typedholeslaw3.TypesValid -/
def g5 : AFunc := ⟨6, 84, [.t 12],
  (.seq
   (.reg [⟨some 6, none, [.t 0], .box 6 5⟩,
     ⟨some 12, none, [.c (.pv (.bool false))], .v (.mv)⟩] [1, 2, 3, 4, 5, 6])
   (.seq
    (.seq
     (.reg [⟨some 16, none, [], .callP 23⟩,
       ⟨some 17, none, [.t 16], .v (.un .not)⟩] [1, 2, 3, 4, 5, 6, 17])
     (.cond (.t 17)
      (.seq
       (.reg [⟨some 12, none, [.c (.pv (.bool false))], .v (.mv)⟩] [12])
       .ret)
      .skip))
    (.seq
     (.seq
      (.reg [⟨some 18, none, [.t 6], .loadL 6 0 5 true⟩,
        ⟨some 19, none, [.t 18], .callP 24⟩,
        ⟨some 20, none, [.t 19], .v (.un .not)⟩,
        ⟨some 21, none, [.t 20], .v (.mv)⟩,
        ⟨some 22, some (21, false), [.t 2], .v (.mv)⟩,
        ⟨some 23, some (21, false), [.t 22], .callP 15⟩,
        ⟨some 24, some (21, false), [.t 23], .v (.un .not)⟩,
        ⟨some 25, none, [.t 21, .c (.pv (.bool true)), .t 24], .v (.pick)⟩,
        ⟨some 26, none, [.t 25], .v (.mv)⟩,
        ⟨some 27, some (26, false), [.t 5], .v (.mv)⟩,
        ⟨some 28, some (26, false), [.t 27], .v (.lenS)⟩,
        ⟨some 29, some (26, false), [.t 28, .c (.pv (.int .i64 20))], .v (.bin .gtr)⟩,
        ⟨some 30, none, [.t 26, .c (.pv (.bool true)), .t 29], .v (.pick)⟩] [1, 2, 3, 4, 5, 6, 30])
      (.cond (.t 30)
       (.seq
        (.reg [⟨some 12, none, [.c (.pv (.bool true))], .v (.mv)⟩] [12])
        .ret)
       .skip))
     (.seq
      (.reg [⟨some 32, none, [.t 1], .v (.mv)⟩,
        ⟨some 33, none, [.t 2], .v (.mv)⟩,
        ⟨some 34, none, [.t 32, .t 33], .callI 25 []⟩,
        ⟨some 31, none, [.t 34], .v (.mv)⟩,
        ⟨some 35, none, [.t 31], .v (.ext 0)⟩,
        ⟨some 36, none, [.t 31], .v (.ext 1)⟩,
        ⟨some 13, none, [], .alloc 13 [.int .i64 0, .str [], .int .i64 0, .int .i64 0, .lst []]⟩,
        ⟨none, none, [.t 13, .t 35], .storeL 13 0 5⟩,
        ⟨some 14, none, [.t 36], .v (.mv)⟩] [3, 4, 5, 6, 13, 14])
      (.seq
       (.reg [⟨some 37, none, [.t 13], .loadL 13 0 5 true⟩,
         ⟨some 15, none, [], .alloc 15 [.int .i64 0, .str [], .int .i64 0, .int .i64 0, .lst []]⟩,
         ⟨none, none, [.t 15, .t 37], .storeL 15 0 5⟩] [3, 4, 5, 6, 13, 14, 15])
       (.seq
        (.seq
         (.reg [⟨some 38, none, [.t 3], .v (.mv)⟩,
           ⟨some 39, none, [.t 38, .c (.pv (.int .i64 6))], .callP 26⟩] [4, 5, 6, 13, 14, 15, 39])
         (.block 0
          (.seq
           (.reg [⟨some 41, none, [.t 39, .c (.pv (.int .i64 1))], .v (.bin .eql)⟩,
             ⟨some 40, none, [.t 41], .v (.mv)⟩] [4, 5, 6, 13, 14, 15, 39, 40])
           (.cond (.t 40)
            (.reg [⟨some 42, none, [.t 4], .v (.mv)⟩,
              ⟨some 43, none, [.t 42, .c (.pv (.int .i64 7))], .callP 26⟩,
              ⟨some 44, none, [.t 15], .v (.faddr 0)⟩,
              ⟨none, none, [.t 44, .t 43], .storeL 15 0 1⟩] [6, 13, 15])
            (.seq
             (.reg [⟨some 46, none, [.t 39, .c (.pv (.int .i64 2))], .v (.bin .eql)⟩,
               ⟨some 45, none, [.t 46], .v (.mv)⟩] [4, 5, 6, 13, 14, 15, 39, 45])
             (.cond (.t 45)
              (.reg [⟨some 47, none, [.t 5], .v (.mv)⟩,
                ⟨some 48, none, [.t 15], .v (.faddr 1)⟩,
                ⟨none, none, [.t 48, .t 47], .storeL 15 1 1⟩] [6, 13, 15])
              (.seq
               (.reg [⟨some 50, none, [.t 39, .c (.pv (.int .i64 3))], .v (.bin .eql)⟩,
                 ⟨some 49, none, [.t 50], .v (.mv)⟩] [4, 6, 13, 14, 15, 39, 49])
               (.cond (.t 49)
                (.reg [⟨some 51, none, [.t 4], .v (.mv)⟩,
                  ⟨some 52, none, [.t 15], .v (.faddr 2)⟩,
                  ⟨none, none, [.t 52, .t 51], .storeL 15 2 1⟩] [6, 13, 15])
                (.seq
                 (.reg [⟨some 54, none, [.t 39, .c (.pv (.int .i64 4))], .v (.bin .eql)⟩,
                   ⟨some 53, none, [.t 54], .v (.mv)⟩] [4, 6, 13, 14, 15, 39, 53])
                 (.cond (.t 53)
                  (.reg [⟨some 55, none, [.t 4], .v (.mv)⟩,
                    ⟨some 56, none, [.t 15], .v (.faddr 3)⟩,
                    ⟨none, none, [.t 56, .t 55], .storeL 15 3 1⟩] [6, 13, 15])
                  (.seq
                   (.reg [⟨some 58, none, [.t 39, .c (.pv (.int .i64 5))], .v (.bin .eql)⟩,
                     ⟨some 57, none, [.t 58], .v (.mv)⟩] [6, 13, 14, 15, 57])
                   (.cond (.t 57)
                    (.reg [⟨some 59, none, [.t 13], .v (.faddr 4)⟩,
                      ⟨some 60, none, [.t 59], .loadL 13 4 1 false⟩,
                      ⟨some 61, none, [.c (.clp []), .t 60], .append 5 64⟩,
                      ⟨some 62, none, [.t 14], .v (.mv)⟩,
                      ⟨some 63, none, [], .callP 28⟩,
                      ⟨some 64, none, [.t 62, .c (.clp []), .t 63, .c (.pv (.int .i64 1))], .callI 27 []⟩,
                      ⟨some 65, none, [.t 64], .v (.bslice 5)⟩,
                      ⟨some 66, none, [.t 61, .t 65], .append 5 64⟩,
                      ⟨some 67, none, [.t 15], .v (.faddr 4)⟩,
                      ⟨none, none, [.t 67, .t 66], .storeL 15 4 1⟩] [6, 13, 15])
                    .skip))))))))))))
        (.seq
         (.reg [⟨some 68, none, [.t 6], .loadL 6 0 5 true⟩,
           ⟨some 69, none, [.t 68], .callP 29⟩,
           ⟨some 70, none, [.t 6], .loadL 6 0 5 true⟩,
           ⟨some 71, none, [.t 70], .callP 30⟩,
           ⟨some 72, none, [.t 69, .t 71], .v (.beq false)⟩,
           ⟨some 73, none, [.t 72], .v (.mv)⟩,
           ⟨some 74, some (73, true), [.t 13], .loadL 13 0 5 true⟩,
           ⟨some 75, some (73, true), [.t 74], .callP 29⟩,
           ⟨some 76, none, [.t 73, .t 75, .c (.pv (.bool false))], .v (.pick)⟩,
           ⟨some 77, none, [.t 76], .v (.mv)⟩,
           ⟨some 78, some (77, true), [.t 15], .loadL 15 0 5 true⟩,
           ⟨some 79, some (77, true), [.t 78], .callP 29⟩,
           ⟨some 80, some (77, true), [.t 15], .loadL 15 0 5 true⟩,
           ⟨some 81, some (77, true), [.t 80], .callP 30⟩,
           ⟨some 82, some (77, true), [.t 79, .t 81], .v (.beq false)⟩,
           ⟨some 83, none, [.t 77, .t 82, .c (.pv (.bool false))], .v (.pick)⟩,
           ⟨some 12, none, [.t 83], .v (.mv)⟩] [12])
         .ret)))))))⟩

/- typedholes/typedholeslaw3.TypesEqual -/
def g6 : AFunc := ⟨4, 68, [.t 8],
  (.seq
   (.reg [⟨some 4, none, [.t 0], .box 4 5⟩,
     ⟨some 5, none, [.t 1], .box 5 5⟩,
     ⟨some 8, none, [.c (.pv (.bool false))], .v (.mv)⟩] [2, 3, 4, 5])
   (.seq
    (.seq
     (.reg [⟨some 12, none, [], .callP 23⟩,
       ⟨some 13, none, [.t 12], .v (.un .not)⟩] [2, 3, 4, 5, 13])
     (.cond (.t 13)
      (.seq
       (.reg [⟨some 8, none, [.c (.pv (.bool false))], .v (.mv)⟩] [8])
       .ret)
      .skip))
    (.seq
     (.seq
      (.reg [⟨some 14, none, [.t 4], .loadL 4 0 5 true⟩,
        ⟨some 15, none, [.t 14], .callP 24⟩,
        ⟨some 16, none, [.t 15], .v (.un .not)⟩,
        ⟨some 17, none, [.t 16], .v (.mv)⟩,
        ⟨some 18, some (17, false), [.t 5], .loadL 5 0 5 true⟩,
        ⟨some 19, some (17, false), [.t 18], .callP 24⟩,
        ⟨some 20, some (17, false), [.t 19], .v (.un .not)⟩,
        ⟨some 21, none, [.t 17, .c (.pv (.bool true)), .t 20], .v (.pick)⟩,
        ⟨some 22, none, [.t 21], .v (.mv)⟩,
        ⟨some 23, some (22, false), [.t 3], .v (.mv)⟩,
        ⟨some 24, some (22, false), [.t 23], .callP 15⟩,
        ⟨some 25, some (22, false), [.t 24], .v (.un .not)⟩,
        ⟨some 26, none, [.t 22, .c (.pv (.bool true)), .t 25], .v (.pick)⟩] [2, 3, 4, 5, 26])
      (.cond (.t 26)
       (.seq
        (.reg [⟨some 8, none, [.c (.pv (.bool true))], .v (.mv)⟩] [8])
        .ret)
       .skip))
     (.seq
      (.reg [⟨some 27, none, [.t 4], .loadL 4 0 5 true⟩,
        ⟨some 28, none, [.t 27], .callP 31⟩,
        ⟨some 29, none, [.t 5], .loadL 5 0 5 true⟩,
        ⟨some 30, none, [.t 29], .callP 31⟩,
        ⟨none, none, [.t 4, .t 28], .storeL 4 0 5⟩,
        ⟨none, none, [.t 5, .t 30], .storeL 5 0 5⟩] [2, 3, 4, 5])
      (.seq
       (.reg [⟨some 32, none, [.t 2], .v (.mv)⟩,
         ⟨some 33, none, [.t 3], .v (.mv)⟩,
         ⟨some 34, none, [.t 32, .t 33], .callI 25 []⟩,
         ⟨some 31, none, [.t 34], .v (.mv)⟩,
         ⟨some 35, none, [.t 31], .v (.ext 0)⟩,
         ⟨some 36, none, [.t 31], .v (.ext 1)⟩,
         ⟨some 9, none, [], .alloc 9 [.int .i64 0, .str [], .int .i64 0, .int .i64 0, .lst []]⟩,
         ⟨none, none, [.t 9, .t 35], .storeL 9 0 5⟩,
         ⟨some 10, none, [.t 36], .v (.mv)⟩] [2, 4, 5, 9, 10])
       (.seq
        (.reg [⟨some 37, none, [.t 10], .v (.mv)⟩,
          ⟨some 38, none, [.t 2], .v (.mv)⟩,
          ⟨some 39, none, [.t 38], .callP 32⟩,
          ⟨some 40, none, [], .callP 28⟩,
          ⟨some 41, none, [.t 37, .t 39, .t 40, .c (.pv (.int .i64 3))], .callI 27 []⟩,
          ⟨some 11, none, [], .alloc 11 [.int .i64 0, .str [], .int .i64 0, .int .i64 0, .lst []]⟩,
          ⟨none, none, [.t 11, .t 41], .storeL 11 0 5⟩] [4, 5, 9, 11])
        (.seq
         (.reg [⟨some 42, none, [.t 4], .loadL 4 0 5 true⟩,
           ⟨some 43, none, [.t 5], .loadL 5 0 5 true⟩,
           ⟨some 44, none, [.t 42, .t 43], .callP 33⟩,
           ⟨some 45, none, [.t 4], .loadL 4 0 5 true⟩,
           ⟨some 46, none, [.t 5], .loadL 5 0 5 true⟩,
           ⟨some 47, none, [.t 45, .t 46], .callP 20⟩,
           ⟨some 48, none, [.t 44, .t 47], .v (.beq false)⟩,
           ⟨some 49, none, [.t 48], .v (.mv)⟩,
           ⟨some 50, some (49, true), [.t 4], .loadL 4 0 5 true⟩,
           ⟨some 51, some (49, true), [.t 4], .loadL 4 0 5 true⟩,
           ⟨some 52, some (49, true), [.t 50, .t 51], .callP 33⟩,
           ⟨some 53, none, [.t 49, .t 52, .c (.pv (.bool false))], .v (.pick)⟩,
           ⟨some 54, none, [.t 53], .v (.mv)⟩,
           ⟨some 55, some (54, true), [.t 9], .loadL 9 0 5 true⟩,
           ⟨some 56, some (54, true), [.t 11], .loadL 11 0 5 true⟩,
           ⟨some 57, some (54, true), [.t 55, .t 56], .callP 33⟩,
           ⟨some 58, some (54, true), [.t 9], .loadL 9 0 5 true⟩,
           ⟨some 59, some (54, true), [.t 11], .loadL 11 0 5 true⟩,
           ⟨some 60, some (54, true), [.t 58, .t 59], .callP 20⟩,
           ⟨some 61, some (54, true), [.t 57, .t 60], .v (.beq false)⟩,
           ⟨some 62, none, [.t 54, .t 61, .c (.pv (.bool false))], .v (.pick)⟩,
           ⟨some 63, none, [.t 62], .v (.mv)⟩,
           ⟨some 64, some (63, true), [.t 9], .loadL 9 0 5 true⟩,
           ⟨some 65, some (63, true), [.t 9], .loadL 9 0 5 true⟩,
           ⟨some 66, some (63, true), [.t 64, .t 65], .callP 33⟩,
           ⟨some 67, none, [.t 63, .t 66, .c (.pv (.bool false))], .v (.pick)⟩,
           ⟨some 8, none, [.t 67], .v (.mv)⟩] [8])
         .ret)))))))⟩

/- typedholes/typedholeslaw3.TypesOrdered -/
def g7B2 : ACode :=
  (.seq
   (.seq
    (.reg [⟨some 106, none, [.t 13], .v (.mv)⟩,
      ⟨some 107, none, [.t 9], .v (.mv)⟩,
      ⟨some 108, none, [.t 107], .v (.len)⟩,
      ⟨some 109, none, [.t 106, .t 108], .v (.bin .lss)⟩] [9, 10, 11, 12, 13, 109])
    (.cond (.t 109)
     .skip
     (.exit 4)))
   (.seq
    (.block 5
     (.seq
      (.reg [⟨some 112, none, [.t 12], .v (.mv)⟩,
        ⟨some 113, none, [.t 112, .c (.pv (.int .i64 0))], .v (.bin .lss)⟩,
        ⟨some 114, none, [.t 113], .v (.mv)⟩,
        ⟨some 115, some (114, true), [.t 9], .v (.mv)⟩,
        ⟨some 116, some (114, true), [.t 11], .v (.mv)⟩,
        ⟨some 117, some (114, true), [.t 115, .t 116], .v (.iaddr 5)⟩,
        ⟨some 118, some (114, true), [.t 117], .v (.loadE 5 true)⟩,
        ⟨some 119, some (114, true), [.t 9], .v (.mv)⟩,
        ⟨some 120, some (114, true), [.t 13], .v (.mv)⟩,
        ⟨some 121, some (114, true), [.t 119, .t 120], .v (.iaddr 5)⟩,
        ⟨some 122, some (114, true), [.t 121], .v (.loadE 5 true)⟩,
        ⟨some 123, some (114, true), [.t 118, .t 122], .callP 35⟩,
        ⟨some 124, some (114, true), [.t 123, .c (.pv (.int .i64 0))], .v (.bin .lss)⟩,
        ⟨some 125, none, [.t 114, .t 124, .c (.pv (.bool false))], .v (.pick)⟩,
        ⟨some 126, none, [.t 125], .v (.mv)⟩,
        ⟨some 127, some (126, true), [.t 9], .v (.mv)⟩,
        ⟨some 128, some (126, true), [.t 10], .v (.mv)⟩,
        ⟨some 129, some (126, true), [.t 127, .t 128], .v (.iaddr 5)⟩,
        ⟨some 130, some (126, true), [.t 129], .v (.loadE 5 true)⟩,
        ⟨some 131, some (126, true), [.t 9], .v (.mv)⟩,
        ⟨some 132, some (126, true), [.t 13], .v (.mv)⟩,
        ⟨some 133, some (126, true), [.t 131, .t 132], .v (.iaddr 5)⟩,
        ⟨some 134, some (126, true), [.t 133], .v (.loadE 5 true)⟩,
        ⟨some 135, some (126, true), [.t 130, .t 134], .callP 35⟩,
        ⟨some 136, some (126, true), [.t 135, .c (.pv (.int .i64 0))], .v (.bin .geq)⟩,
        ⟨some 137, none, [.t 126, .t 136, .c (.pv (.bool false))], .v (.pick)⟩] [9, 10, 11, 12, 13, 137])
      (.cond (.t 137)
       (.seq
        (.reg [⟨some 6, none, [.c (.pv (.bool false))], .v (.mv)⟩] [6])
        .ret)
       .skip)))
    (.reg [⟨some 110, none, [.t 13], .v (.mv)⟩,
      ⟨some 111, none, [.t 110, .c (.pv (.int .i64 1))], .v (.bin .add)⟩,
      ⟨some 13, none, [.t 111], .v (.mv)⟩] [9, 10, 11, 12, 13])))
def g7L2 : ACode := .loop [9, 10, 11, 12, 13] g7B2
theorem g7L2_eq {AP : Nat → Option AFunc} {st : St} : cl AP g7L2 st = after (cl AP g7L2) (cl AP g7B2 (norm (restrict [9, 10, 11, 12, 13] st))) := cl_loop
def g7B1 : ACode :=
  (.seq
   (.seq
    (.reg [⟨some 52, none, [.t 11], .v (.mv)⟩,
      ⟨some 53, none, [.t 9], .v (.mv)⟩,
      ⟨some 54, none, [.t 53], .v (.len)⟩,
      ⟨some 55, none, [.t 52, .t 54], .v (.bin .lss)⟩] [9, 10, 11, 55])
    (.cond (.t 55)
     .skip
     (.exit 2)))
   (.seq
    (.block 3
     (.seq
      (.reg [⟨some 58, none, [.t 9], .v (.mv)⟩,
        ⟨some 59, none, [.t 10], .v (.mv)⟩,
        ⟨some 60, none, [.t 58, .t 59], .v (.iaddr 5)⟩,
        ⟨some 61, none, [.t 60], .v (.loadE 5 true)⟩,
        ⟨some 62, none, [.t 9], .v (.mv)⟩,
        ⟨some 63, none, [.t 11], .v (.mv)⟩,
        ⟨some 64, none, [.t 62, .t 63], .v (.iaddr 5)⟩,
        ⟨some 65, none, [.t 64], .v (.loadE 5 true)⟩,
        ⟨some 66, none, [.t 61, .t 65], .callP 35⟩,
        ⟨some 12, none, [.t 66], .v (.mv)⟩] [9, 10, 11, 12])
      (.seq
       (.seq
        (.reg [⟨some 67, none, [.t 12], .v (.mv)⟩,
          ⟨some 68, none, [.t 9], .v (.mv)⟩,
          ⟨some 69, none, [.t 10], .v (.mv)⟩,
          ⟨some 70, none, [.t 68, .t 69], .v (.iaddr 5)⟩,
          ⟨some 71, none, [.t 70], .v (.loadE 5 true)⟩,
          ⟨some 72, none, [.t 9], .v (.mv)⟩,
          ⟨some 73, none, [.t 11], .v (.mv)⟩,
          ⟨some 74, none, [.t 72, .t 73], .v (.iaddr 5)⟩,
          ⟨some 75, none, [.t 74], .v (.loadE 5 true)⟩,
          ⟨some 76, none, [.t 71, .t 75], .callP 36⟩,
          ⟨some 77, none, [.t 67, .t 76], .v (.bin .neq)⟩,
          ⟨some 78, none, [.t 77], .v (.mv)⟩,
          ⟨some 79, some (78, false), [.t 12], .v (.mv)⟩,
          ⟨some 80, some (78, false), [.t 9], .v (.mv)⟩,
          ⟨some 81, some (78, false), [.t 11], .v (.mv)⟩,
          ⟨some 82, some (78, false), [.t 80, .t 81], .v (.iaddr 5)⟩,
          ⟨some 83, some (78, false), [.t 82], .v (.loadE 5 true)⟩,
          ⟨some 84, some (78, false), [.t 9], .v (.mv)⟩,
          ⟨some 85, some (78, false), [.t 10], .v (.mv)⟩,
          ⟨some 86, some (78, false), [.t 84, .t 85], .v (.iaddr 5)⟩,
          ⟨some 87, some (78, false), [.t 86], .v (.loadE 5 true)⟩,
          ⟨some 88, some (78, false), [.t 83, .t 87], .callP 35⟩,
          ⟨some 89, some (78, false), [.t 88], .v (.un .neg)⟩,
          ⟨some 90, some (78, false), [.t 79, .t 89], .v (.bin .neq)⟩,
          ⟨some 91, none, [.t 78, .c (.pv (.bool true)), .t 90], .v (.pick)⟩,
          ⟨some 92, none, [.t 91], .v (.mv)⟩,
          ⟨some 93, some (92, false), [.t 12], .v (.mv)⟩,
          ⟨some 94, some (92, false), [.t 93, .c (.pv (.int .i64 0))], .v (.bin .eql)⟩,
          ⟨some 95, some (92, false), [.t 9], .v (.mv)⟩,
          ⟨some 96, some (92, false), [.t 10], .v (.mv)⟩,
          ⟨some 97, some (92, false), [.t 95, .t 96], .v (.iaddr 5)⟩,
          ⟨some 98, some (92, false), [.t 97], .v (.loadE 5 true)⟩,
          ⟨some 99, some (92, false), [.t 9], .v (.mv)⟩,
          ⟨some 100, some (92, false), [.t 11], .v (.mv)⟩,
          ⟨some 101, some (92, false), [.t 99, .t 100], .v (.iaddr 5)⟩,
          ⟨some 102, some (92, false), [.t 101], .v (.loadE 5 true)⟩,
          ⟨some 103, some (92, false), [.t 98, .t 102], .callP 20⟩,
          ⟨some 104, some (92, false), [.t 94, .t 103], .v (.beq true)⟩,
          ⟨some 105, none, [.t 92, .c (.pv (.bool true)), .t 104], .v (.pick)⟩] [9, 10, 11, 12, 105])
        (.cond (.t 105)
         (.seq
          (.reg [⟨some 6, none, [.c (.pv (.bool false))], .v (.mv)⟩] [6])
          .ret)
         .skip))
       (.seq
        (.reg [⟨some 13, none, [.c (.pv (.int .i64 0))], .v (.mv)⟩] [9, 10, 11, 12, 13])
        (.block 4
         g7L2)))))
    (.reg [⟨some 56, none, [.t 11], .v (.mv)⟩,
      ⟨some 57, none, [.t 56, .c (.pv (.int .i64 1))], .v (.bin .add)⟩,
      ⟨some 11, none, [.t 57], .v (.mv)⟩] [9, 10, 11])))
def g7L1 : ACode := .loop [9, 10, 11] g7B1
theorem g7L1_eq {AP : Nat → Option AFunc} {st : St} : cl AP g7L1 st = after (cl AP g7L1) (cl AP g7B1 (norm (restrict [9, 10, 11] st))) := cl_loop
def g7B0 : ACode :=
  (.seq
   (.seq
    (.reg [⟨some 46, none, [.t 10], .v (.mv)⟩,
      ⟨some 47, none, [.t 9], .v (.mv)⟩,
      ⟨some 48, none, [.t 47], .v (.len)⟩,
      ⟨some 49, none, [.t 46, .t 48], .v (.bin .lss)⟩] [9, 10, 49])
    (.cond (.t 49)
     .skip
     (.exit 0)))
   (.seq
    (.block 1
     (.seq
      (.reg [⟨some 11, none, [.c (.pv (.int .i64 0))], .v (.mv)⟩] [9, 10, 11])
      (.block 2
       g7L1)))
    (.reg [⟨some 50, none, [.t 10], .v (.mv)⟩,
      ⟨some 51, none, [.t 50, .c (.pv (.int .i64 1))], .v (.bin .add)⟩,
      ⟨some 10, none, [.t 51], .v (.mv)⟩] [9, 10])))
def g7L0 : ACode := .loop [9, 10] g7B0
theorem g7L0_eq {AP : Nat → Option AFunc} {st : St} : cl AP g7L0 st = after (cl AP g7L0) (cl AP g7B0 (norm (restrict [9, 10] st))) := cl_loop
def g7 : AFunc := ⟨3, 138, [.t 6],
  (.seq
   (.reg [⟨some 3, none, [.t 0], .box 3 5⟩,
     ⟨some 6, none, [.c (.pv (.bool false))], .v (.mv)⟩] [1, 2, 3])
   (.seq
    (.seq
     (.reg [⟨some 14, none, [], .callP 23⟩,
       ⟨some 15, none, [.t 14], .v (.un .not)⟩] [1, 2, 3, 15])
     (.cond (.t 15)
      (.seq
       (.reg [⟨some 6, none, [.c (.pv (.bool false))], .v (.mv)⟩] [6])
       .ret)
      .skip))
    (.seq
     (.seq
      (.reg [⟨some 16, none, [.t 3], .loadL 3 0 5 true⟩,
        ⟨some 17, none, [.t 16], .callP 24⟩,
        ⟨some 18, none, [.t 17], .v (.un .not)⟩,
        ⟨some 19, none, [.t 18], .v (.mv)⟩,
        ⟨some 20, some (19, false), [.t 2], .v (.mv)⟩,
        ⟨some 21, some (19, false), [.t 20], .callP 15⟩,
        ⟨some 22, some (19, false), [.t 21], .v (.un .not)⟩,
        ⟨some 23, none, [.t 19, .c (.pv (.bool true)), .t 22], .v (.pick)⟩] [1, 2, 3, 23])
      (.cond (.t 23)
       (.seq
        (.reg [⟨some 6, none, [.c (.pv (.bool true))], .v (.mv)⟩] [6])
        .ret)
       .skip))
     (.seq
      (.reg [⟨some 24, none, [.t 3], .loadL 3 0 5 true⟩,
        ⟨some 25, none, [.t 24], .callP 31⟩,
        ⟨none, none, [.t 3, .t 25], .storeL 3 0 5⟩] [1, 2, 3])
      (.seq
       (.reg [⟨some 27, none, [.t 1], .v (.mv)⟩,
         ⟨some 28, none, [.t 2], .v (.mv)⟩,
         ⟨some 29, none, [.t 27, .t 28], .callI 25 []⟩,
         ⟨some 26, none, [.t 29], .v (.mv)⟩,
         ⟨some 30, none, [.t 26], .v (.ext 0)⟩,
         ⟨some 31, none, [.t 26], .v (.ext 1)⟩,
         ⟨some 7, none, [], .alloc 7 [.int .i64 0, .str [], .int .i64 0, .int .i64 0, .lst []]⟩,
         ⟨none, none, [.t 7, .t 30], .storeL 7 0 5⟩,
         ⟨some 8, none, [.t 31], .v (.mv)⟩] [1, 3, 7, 8])
       (.seq
        (.reg [⟨some 32, none, [.t 3], .loadL 3 0 5 true⟩,
          ⟨some 33, none, [.t 7], .loadL 7 0 5 true⟩,
          ⟨some 34, none, [.t 8], .v (.mv)⟩,
          ⟨some 35, none, [.t 1], .v (.mv)⟩,
          ⟨some 36, none, [.t 35], .callP 32⟩,
          ⟨some 37, none, [], .callP 28⟩,
          ⟨some 38, none, [.t 34, .t 36, .t 37, .c (.pv (.int .i64 2))], .callI 27 []⟩,
          ⟨some 39, none, [.t 8], .v (.mv)⟩,
          ⟨some 40, none, [.t 1], .v (.mv)⟩,
          ⟨some 41, none, [.t 40], .callP 32⟩,
          ⟨some 42, none, [], .callP 28⟩,
          ⟨some 43, none, [.t 39, .t 41, .t 42, .c (.pv (.int .i64 1))], .callI 27 []⟩,
          ⟨some 44, none, [], .callP 34⟩,
          ⟨some 45, none, [.t 32, .t 33, .t 38, .t 43, .t 44], .v (.bslice 5)⟩,
          ⟨some 9, none, [.t 45], .v (.mv)⟩] [9])
        (.seq
         (.seq
          (.reg [⟨some 10, none, [.c (.pv (.int .i64 0))], .v (.mv)⟩] [9, 10])
          (.block 0
           g7L0))
         (.seq
          (.reg [⟨some 6, none, [.c (.pv (.bool true))], .v (.mv)⟩] [6])
          .ret))))))))⟩

/- typedholes/typedholeslaw13.SubstAssociates -/
def g8 : AFunc := ⟨2, 55, [.t 4],
  (.seq
   (.reg [⟨some 4, none, [.c (.pv (.bool false))], .v (.mv)⟩] [0, 1])
   (.seq
    (.seq
     (.reg [⟨some 11, none, [], .callP 14⟩,
       ⟨some 12, none, [.t 11], .v (.un .not)⟩] [0, 1, 12])
     (.cond (.t 12)
      (.seq
       (.reg [⟨some 4, none, [.c (.pv (.bool false))], .v (.mv)⟩] [4])
       .ret)
      .skip))
    (.seq
     (.seq
      (.reg [⟨some 13, none, [.t 1], .v (.mv)⟩,
        ⟨some 14, none, [.t 13], .callP 15⟩,
        ⟨some 15, none, [.t 14], .v (.un .not)⟩] [0, 1, 15])
      (.cond (.t 15)
       (.seq
        (.reg [⟨some 4, none, [.c (.pv (.bool true))], .v (.mv)⟩] [4])
        .ret)
       .skip))
     (.seq
      (.reg [⟨some 17, none, [.t 0], .v (.mv)⟩,
        ⟨some 18, none, [.t 1], .v (.mv)⟩,
        ⟨some 19, none, [.t 17, .t 18], .callI 16 []⟩,
        ⟨some 16, none, [.t 19], .v (.mv)⟩,
        ⟨some 20, none, [.t 16], .v (.ext 0)⟩,
        ⟨some 21, none, [.t 16], .v (.ext 1)⟩,
        ⟨some 22, none, [.t 16], .v (.ext 2)⟩,
        ⟨some 23, none, [.t 16], .v (.ext 3)⟩,
        ⟨some 7, none, [], .alloc 7 [.int .i64 0, .str [], .int .i64 0, .int .i64 0, .lst []]⟩,
        ⟨some 5, none, [.t 20], .v (.mv)⟩,
        ⟨some 6, none, [.t 21], .v (.mv)⟩,
        ⟨none, none, [.t 7, .t 22], .storeL 7 0 5⟩,
        ⟨some 8, none, [.t 23], .v (.mv)⟩] [0, 5, 6, 8])
      (.seq
       (.reg [⟨some 24, none, [.t 8], .v (.mv)⟩,
         ⟨some 25, none, [.t 0], .v (.mv)⟩,
         ⟨some 26, none, [.t 25], .callP 32⟩,
         ⟨some 27, none, [.t 24, .t 26, .c (.pv (.int .i64 4))], .callI 37 []⟩,
         ⟨some 9, none, [.t 27], .v (.mv)⟩] [5, 6, 9])
       (.seq
        (.reg [⟨some 28, none, [.c (.pv (.int .i64 0)), .c (.pv (.int .i64 1)), .c (.pv (.int .i64 2)), .c (.pv (.int .i64 3)), .c (.pv (.int .i64 4))], .v (.bslice 1)⟩,
          ⟨some 10, none, [.t 28], .v (.mv)⟩] [5, 6, 9, 10])
        (.seq
         (.reg [⟨some 29, none, [.t 5], .v (.mv)⟩,
           ⟨some 30, none, [.t 6], .v (.mv)⟩,
           ⟨some 31, none, [.t 29, .t 30], .callP 17⟩,
           ⟨some 32, none, [.t 9], .v (.mv)⟩,
           ⟨some 33, none, [.t 31, .t 32], .callP 17⟩,
           ⟨some 34, none, [.t 5], .v (.mv)⟩,
           ⟨some 35, none, [.t 6], .v (.mv)⟩,
           ⟨some 36, none, [.t 9], .v (.mv)⟩,
           ⟨some 37, none, [.t 35, .t 36], .callP 17⟩,
           ⟨some 38, none, [.t 34, .t 37], .callP 17⟩,
           ⟨some 39, none, [.t 10], .v (.mv)⟩,
           ⟨some 40, none, [.t 33, .t 38, .t 39], .callP 38⟩,
           ⟨some 41, none, [.t 40], .v (.mv)⟩,
           ⟨some 42, some (41, true), [.t 5], .v (.mv)⟩,
           ⟨some 43, some (41, true), [.t 42, .c (.clp [])], .callP 17⟩,
           ⟨some 44, some (41, true), [.t 5], .v (.mv)⟩,
           ⟨some 45, some (41, true), [.t 10], .v (.mv)⟩,
           ⟨some 46, some (41, true), [.t 43, .t 44, .t 45], .callP 38⟩,
           ⟨some 47, none, [.t 41, .t 46, .c (.pv (.bool false))], .v (.pick)⟩,
           ⟨some 48, none, [.t 47], .v (.mv)⟩,
           ⟨some 49, some (48, true), [.t 5], .v (.mv)⟩,
           ⟨some 50, some (48, true), [.c (.clp []), .t 49], .callP 17⟩,
           ⟨some 51, some (48, true), [.t 5], .v (.mv)⟩,
           ⟨some 52, some (48, true), [.t 10], .v (.mv)⟩,
           ⟨some 53, some (48, true), [.t 50, .t 51, .t 52], .callP 38⟩,
           ⟨some 54, none, [.t 48, .t 53, .c (.pv (.bool false))], .v (.pick)⟩,
           ⟨some 4, none, [.t 54], .v (.mv)⟩] [4])
         .ret)))))))⟩

/- typedholes/typedholeslaw13.SubstEqual -/
def g9B0 : ACode :=
  (.seq
   (.seq
    (.reg [⟨some 31, none, [.t 12], .v (.mv)⟩,
      ⟨some 32, none, [.t 2], .v (.mv)⟩,
      ⟨some 33, none, [.t 32], .v (.len)⟩,
      ⟨some 34, none, [.t 31, .t 33], .v (.bin .lss)⟩] [2, 7, 8, 11, 12, 34])
    (.cond (.t 34)
     .skip
     (.exit 0)))
   (.seq
    (.block 1
     (.reg [⟨some 37, none, [.t 11], .v (.mv)⟩,
       ⟨some 38, none, [.t 2], .v (.mv)⟩,
       ⟨some 39, none, [.t 12], .v (.mv)⟩,
       ⟨some 40, none, [.t 38, .t 39], .v (.iaddr 1)⟩,
       ⟨some 41, none, [.t 40], .v (.loadE 1 false)⟩,
       ⟨some 42, none, [.t 41, .c (.pv (.int .i64 6))], .callP 26⟩,
       ⟨some 43, none, [.t 42], .v (.bslice 1)⟩,
       ⟨some 44, none, [.t 37, .t 43], .append 1 8⟩,
       ⟨some 11, none, [.t 44], .v (.mv)⟩] [2, 7, 8, 11, 12]))
    (.reg [⟨some 35, none, [.t 12], .v (.mv)⟩,
      ⟨some 36, none, [.t 35, .c (.pv (.int .i64 1))], .v (.bin .add)⟩,
      ⟨some 12, none, [.t 36], .v (.mv)⟩] [2, 7, 8, 11, 12])))
def g9L0 : ACode := .loop [2, 7, 8, 11, 12] g9B0
theorem g9L0_eq {AP : Nat → Option AFunc} {st : St} : cl AP g9L0 st = after (cl AP g9L0) (cl AP g9B0 (norm (restrict [2, 7, 8, 11, 12] st))) := cl_loop
def g9 : AFunc := ⟨3, 60, [.t 6],
  (.seq
   (.reg [⟨some 6, none, [.c (.pv (.bool false))], .v (.mv)⟩] [0, 1, 2])
   (.seq
    (.seq
     (.reg [⟨some 13, none, [], .callP 14⟩,
       ⟨some 14, none, [.t 13], .v (.un .not)⟩] [0, 1, 2, 14])
     (.cond (.t 14)
      (.seq
       (.reg [⟨some 6, none, [.c (.pv (.bool false))], .v (.mv)⟩] [6])
       .ret)
      .skip))
    (.seq
     (.seq
      (.reg [⟨some 15, none, [.t 1], .v (.mv)⟩,
        ⟨some 16, none, [.t 15], .callP 15⟩,
        ⟨some 17, none, [.t 16], .v (.un .not)⟩,
        ⟨some 18, none, [.t 17], .v (.mv)⟩,
        ⟨some 19, some (18, false), [.t 2], .v (.mv)⟩,
        ⟨some 20, some (18, false), [.t 19], .v (.len)⟩,
        ⟨some 21, some (18, false), [.t 20, .c (.pv (.int .i64 6))], .v (.bin .gtr)⟩,
        ⟨some 22, none, [.t 18, .c (.pv (.bool true)), .t 21], .v (.pick)⟩] [0, 1, 2, 22])
      (.cond (.t 22)
       (.seq
        (.reg [⟨some 6, none, [.c (.pv (.bool true))], .v (.mv)⟩] [6])
        .ret)
       .skip))
     (.seq
      (.reg [⟨some 24, none, [.t 0], .v (.mv)⟩,
        ⟨some 25, none, [.t 1], .v (.mv)⟩,
        ⟨some 26, none, [.t 24, .t 25], .callI 16 []⟩,
        ⟨some 23, none, [.t 26], .v (.mv)⟩,
        ⟨some 27, none, [.t 23], .v (.ext 0)⟩,
        ⟨some 28, none, [.t 23], .v (.ext 1)⟩,
        ⟨some 29, none, [.t 23], .v (.ext 2)⟩,
        ⟨some 30, none, [.t 23], .v (.ext 3)⟩,
        ⟨some 9, none, [], .alloc 9 [.int .i64 0, .str [], .int .i64 0, .int .i64 0, .lst []]⟩,
        ⟨some 7, none, [.t 27], .v (.mv)⟩,
        ⟨some 8, none, [.t 28], .v (.mv)⟩,
        ⟨none, none, [.t 9, .t 29], .storeL 9 0 5⟩,
        ⟨some 10, none, [.t 30], .v (.mv)⟩] [2, 7, 8])
      (.seq
       (.reg [⟨some 11, none, [.c (.clp [])], .v (.mv)⟩] [2, 7, 8, 11])
       (.seq
        (.seq
         (.reg [⟨some 12, none, [.c (.pv (.int .i64 0))], .v (.mv)⟩] [2, 7, 8, 11, 12])
         (.block 0
          g9L0))
        (.seq
         (.reg [⟨some 45, none, [.t 7], .v (.mv)⟩,
           ⟨some 46, none, [.t 8], .v (.mv)⟩,
           ⟨some 47, none, [.t 11], .v (.mv)⟩,
           ⟨some 48, none, [.t 45, .t 46, .t 47], .callP 38⟩,
           ⟨some 49, none, [.t 7], .v (.mv)⟩,
           ⟨some 50, none, [.t 8], .v (.mv)⟩,
           ⟨some 51, none, [.t 11], .v (.mv)⟩,
           ⟨some 52, none, [.t 49, .t 50, .t 51], .callP 39⟩,
           ⟨some 53, none, [.t 48, .t 52], .v (.beq false)⟩,
           ⟨some 54, none, [.t 53], .v (.mv)⟩,
           ⟨some 55, some (54, true), [.t 7], .v (.mv)⟩,
           ⟨some 56, some (54, true), [.t 7], .v (.mv)⟩,
           ⟨some 57, some (54, true), [.t 11], .v (.mv)⟩,
           ⟨some 58, some (54, true), [.t 55, .t 56, .t 57], .callP 38⟩,
           ⟨some 59, none, [.t 54, .t 58, .c (.pv (.bool false))], .v (.pick)⟩,
           ⟨some 6, none, [.t 59], .v (.mv)⟩] [6])
         .ret)))))))⟩

/- typedholes/typedholeslaw13.SubstValid -/
def g10B0 : ACode :=
  (.seq
   (.seq
    (.reg [⟨some 24, none, [.t 7], .v (.mv)⟩,
      ⟨some 25, none, [.t 2], .v (.mv)⟩,
      ⟨some 26, none, [.t 25], .v (.len)⟩,
      ⟨some 27, none, [.t 24, .t 26], .v (.bin .lss)⟩] [0, 1, 2, 7, 27])
    (.cond (.t 27)
     .skip
     (.exit 0)))
   (.seq
    (.block 1
     (.seq
      (.reg [⟨some 30, none, [.t 2], .v (.mv)⟩,
        ⟨some 31, none, [.t 7], .v (.mv)⟩,
        ⟨some 32, none, [.t 30, .t 31], .v (.iaddr 6)⟩,
        ⟨some 33, none, [.t 32], .v (.faddr 1)⟩,
        ⟨some 34, none, [.t 33], .v (.loadE 5 true)⟩,
        ⟨some 35, none, [.t 34, .c (.pv (.int .i64 30))], .callP 40⟩,
        ⟨some 36, none, [.t 35], .v (.un .not)⟩] [0, 1, 2, 7, 36])
      (.cond (.t 36)
       (.seq
        (.reg [⟨some 6, none, [.c (.pv (.bool true))], .v (.mv)⟩] [6])
        .ret)
       .skip)))
    (.reg [⟨some 28, none, [.t 7], .v (.mv)⟩,
      ⟨some 29, none, [.t 28, .c (.pv (.int .i64 1))], .v (.bin .add)⟩,
      ⟨some 7, none, [.t 29], .v (.mv)⟩] [0, 1, 2, 7])))
def g10L0 : ACode := .loop [0, 1, 2, 7] g10B0
theorem g10L0_eq {AP : Nat → Option AFunc} {st : St} : cl AP g10L0 st = after (cl AP g10L0) (cl AP g10B0 (norm (restrict [0, 1, 2, 7] st))) := cl_loop
def g10B1 : ACode :=
  (.seq
   (.reg [⟨some 54, none, [.t 53, .t 52], .v (.bin .lss)⟩] [51, 52, 53, 54])
   (.seq
    (.cond (.t 54)
     .skip
     (.exit 2))
    (.seq
     (.block 3
      (.seq
       (.reg [⟨some 55, none, [.t 51, .t 53], .v (.iaddr 1)⟩,
         ⟨some 56, none, [.t 55], .v (.loadE 1 false)⟩,
         ⟨some 13, none, [.t 56], .v (.mv)⟩] [13, 51, 52, 53])
       (.seq
        (.reg [⟨some 57, none, [.t 13], .v (.mv)⟩,
          ⟨some 58, none, [.t 57], .callP 41⟩,
          ⟨some 59, none, [.t 13], .v (.mv)⟩,
          ⟨some 60, none, [.t 59], .callP 42⟩,
          ⟨some 61, none, [.t 58, .t 60], .v (.beq true)⟩,
          ⟨some 62, none, [.t 61], .v (.mv)⟩,
          ⟨some 63, some (62, false), [.t 13], .v (.mv)⟩,
          ⟨some 64, some (62, false), [.t 63], .callP 42⟩,
          ⟨some 65, some (62, false), [.t 64], .v (.mv)⟩,
          ⟨some 66, some (65, true), [.t 13], .v (.mv)⟩,
          ⟨some 67, some (65, true), [.t 66], .callP 43⟩,
          ⟨some 68, some (65, true), [.t 13], .v (.mv)⟩,
          ⟨some 69, some (65, true), [.t 68], .callP 44⟩,
          ⟨some 70, some (65, true), [.t 67, .t 69], .v (.beq true)⟩,
          ⟨some 71, some (62, false), [.t 65, .t 70, .c (.pv (.bool false))], .v (.pick)⟩,
          ⟨some 72, none, [.t 62, .c (.pv (.bool true)), .t 71], .v (.pick)⟩] [51, 52, 53, 72])
        (.cond (.t 72)
         (.seq
          (.reg [⟨some 6, none, [.c (.pv (.bool false))], .v (.mv)⟩] [6])
          .ret)
         .skip))))
     (.reg [⟨some 73, none, [.t 53, .c (.pv (.int .i64 1))], .v (.bin .add)⟩,
       ⟨some 53, none, [.t 73], .v (.mv)⟩] [51, 52, 53]))))
def g10L1 : ACode := .loop [51, 52, 53] g10B1
theorem g10L1_eq {AP : Nat → Option AFunc} {st : St} : cl AP g10L1 st = after (cl AP g10L1) (cl AP g10B1 (norm (restrict [51, 52, 53] st))) := cl_loop
def g10 : AFunc := ⟨3, 74, [.t 6],
  (.seq
   (.reg [⟨some 6, none, [.c (.pv (.bool false))], .v (.mv)⟩] [0, 1, 2])
   (.seq
    (.seq
     (.reg [⟨some 14, none, [], .callP 14⟩,
       ⟨some 15, none, [.t 14], .v (.un .not)⟩] [0, 1, 2, 15])
     (.cond (.t 15)
      (.seq
       (.reg [⟨some 6, none, [.c (.pv (.bool false))], .v (.mv)⟩] [6])
       .ret)
      .skip))
    (.seq
     (.seq
      (.reg [⟨some 16, none, [.t 1], .v (.mv)⟩,
        ⟨some 17, none, [.t 16], .callP 15⟩,
        ⟨some 18, none, [.t 17], .v (.un .not)⟩,
        ⟨some 19, none, [.t 18], .v (.mv)⟩,
        ⟨some 20, some (19, false), [.t 2], .v (.mv)⟩,
        ⟨some 21, some (19, false), [.t 20], .v (.len)⟩,
        ⟨some 22, some (19, false), [.t 21, .c (.pv (.int .i64 6))], .v (.bin .gtr)⟩,
        ⟨some 23, none, [.t 19, .c (.pv (.bool true)), .t 22], .v (.pick)⟩] [0, 1, 2, 23])
      (.cond (.t 23)
       (.seq
        (.reg [⟨some 6, none, [.c (.pv (.bool true))], .v (.mv)⟩] [6])
        .ret)
       .skip))
     (.seq
      (.seq
       (.reg [⟨some 7, none, [.c (.pv (.int .i64 0))], .v (.mv)⟩] [0, 1, 2, 7])
       (.block 0
        g10L0))
      (.seq
       (.reg [⟨some 38, none, [.t 0], .v (.mv)⟩,
         ⟨some 39, none, [.t 1], .v (.mv)⟩,
         ⟨some 40, none, [.t 38, .t 39], .callI 16 []⟩,
         ⟨some 37, none, [.t 40], .v (.mv)⟩,
         ⟨some 41, none, [.t 37], .v (.ext 0)⟩,
         ⟨some 42, none, [.t 37], .v (.ext 1)⟩,
         ⟨some 43, none, [.t 37], .v (.ext 2)⟩,
         ⟨some 44, none, [.t 37], .v (.ext 3)⟩,
         ⟨some 10, none, [], .alloc 10 [.int .i64 0, .str [], .int .i64 0, .int .i64 0, .lst []]⟩,
         ⟨some 8, none, [.t 41], .v (.mv)⟩,
         ⟨some 9, none, [.t 42], .v (.mv)⟩,
         ⟨none, none, [.t 10, .t 43], .storeL 10 0 5⟩,
         ⟨some 11, none, [.t 44], .v (.mv)⟩] [2, 8, 9])
       (.seq
        (.seq
         (.reg [⟨some 45, none, [.t 2], .v (.mv)⟩,
           ⟨some 46, none, [.t 8], .v (.mv)⟩,
           ⟨some 47, none, [.t 8], .v (.mv)⟩,
           ⟨some 48, none, [.c (.clp []), .t 47], .append 6 72⟩,
           ⟨some 49, none, [.t 9], .v (.mv)⟩,
           ⟨some 50, none, [.t 48, .t 49], .append 6 72⟩,
           ⟨some 51, none, [.t 45, .t 46, .t 50], .v (.bslice 1)⟩,
           ⟨some 52, none, [.t 51], .v (.len)⟩,
           ⟨some 53, none, [.c (.pv (.int .i64 0))], .v (.mv)⟩] [51, 52, 53])
         (.block 2
          g10L1))
        (.seq
         (.reg [⟨some 6, none, [.c (.pv (.bool true))], .v (.mv)⟩] [6])
         .ret)))))))⟩

/- typedholes/typedholeslaw3.TypesReplaced -/
def g11B0 : ACode :=
  (.seq
   (.seq
    (.reg [⟨some 29, none, [.t 11], .v (.mv)⟩,
      ⟨some 30, none, [.t 2], .v (.mv)⟩,
      ⟨some 31, none, [.t 30], .v (.len)⟩,
      ⟨some 32, none, [.t 29, .t 31], .v (.bin .lss)⟩] [0, 2, 7, 8, 9, 10, 11, 32])
    (.cond (.t 32)
     .skip
     (.exit 0)))
   (.seq
    (.block 1
     (.seq
      (.reg [⟨some 35, none, [.t 8], .v (.mv)⟩,
        ⟨some 36, none, [.t 0], .v (.mv)⟩,
        ⟨some 37, none, [.t 36], .callP 32⟩,
        ⟨some 38, none, [], .callP 28⟩,
        ⟨some 39, none, [.t 35, .t 37, .t 38, .c (.pv (.int .i64 2))], .callI 27 []⟩,
        ⟨some 12, none, [], .alloc 12 [.int .i64 0, .str [], .int .i64 0, .int .i64 0, .lst []]⟩,
        ⟨none, none, [.t 12, .t 39], .storeL 12 0 5⟩] [0, 2, 7, 8, 9, 10, 11, 12])
      (.reg [⟨some 40, none, [.t 9], .v (.mv)⟩,
        ⟨some 41, none, [.t 2], .v (.mv)⟩,
        ⟨some 42, none, [.t 11], .v (.mv)⟩,
        ⟨some 43, none, [.t 41, .t 42], .v (.iaddr 1)⟩,
        ⟨some 44, none, [.t 43], .v (.loadE 1 false)⟩,
        ⟨some 45, none, [.t 44, .c (.pv (.int .i64 5))], .callP 26⟩,
        ⟨some 46, none, [.t 12], .loadL 12 0 5 true⟩,
        ⟨some 47, none, [.t 45, .t 46], .v (.build [.int .i64 0, .int .i64 0, .str [], .int .i64 0, .int .i64 0, .lst []] [(0, 1), (1, 5)])⟩,
        ⟨some 48, none, [.t 47], .v (.bslice 6)⟩,
        ⟨some 49, none, [.t 40, .t 48], .append 6 72⟩,
        ⟨some 50, none, [.t 10], .v (.mv)⟩,
        ⟨some 51, none, [.t 12], .loadL 12 0 5 true⟩,
        ⟨some 52, none, [.t 51], .v (.bslice 5)⟩,
        ⟨some 53, none, [.t 50, .t 52], .append 5 64⟩,
        ⟨some 9, none, [.t 49], .v (.mv)⟩,
        ⟨some 10, none, [.t 53], .v (.mv)⟩] [0, 2, 7, 8, 9, 10, 11])))
    (.reg [⟨some 33, none, [.t 11], .v (.mv)⟩,
      ⟨some 34, none, [.t 33, .c (.pv (.int .i64 1))], .v (.bin .add)⟩,
      ⟨some 11, none, [.t 34], .v (.mv)⟩] [0, 2, 7, 8, 9, 10, 11])))
def g11L0 : ACode := .loop [0, 2, 7, 8, 9, 10, 11] g11B0
theorem g11L0_eq {AP : Nat → Option AFunc} {st : St} : cl AP g11L0 st = after (cl AP g11L0) (cl AP g11B0 (norm (restrict [0, 2, 7, 8, 9, 10, 11] st))) := cl_loop
def g11 : AFunc := ⟨3, 76, [.t 6],
  (.seq
   (.reg [⟨some 6, none, [.c (.pv (.bool false))], .v (.mv)⟩] [0, 1, 2])
   (.seq
    (.seq
     (.reg [⟨some 13, none, [], .callP 23⟩,
       ⟨some 14, none, [.t 13], .v (.un .not)⟩] [0, 1, 2, 14])
     (.cond (.t 14)
      (.seq
       (.reg [⟨some 6, none, [.c (.pv (.bool false))], .v (.mv)⟩] [6])
       .ret)
      .skip))
    (.seq
     (.seq
      (.reg [⟨some 15, none, [.t 1], .v (.mv)⟩,
        ⟨some 16, none, [.t 15], .callP 15⟩,
        ⟨some 17, none, [.t 16], .v (.un .not)⟩,
        ⟨some 18, none, [.t 17], .v (.mv)⟩,
        ⟨some 19, some (18, false), [.t 2], .v (.mv)⟩,
        ⟨some 20, some (18, false), [.t 19], .v (.len)⟩,
        ⟨some 21, some (18, false), [.t 20, .c (.pv (.int .i64 6))], .v (.bin .gtr)⟩,
        ⟨some 22, none, [.t 18, .c (.pv (.bool true)), .t 21], .v (.pick)⟩] [0, 1, 2, 22])
      (.cond (.t 22)
       (.seq
        (.reg [⟨some 6, none, [.c (.pv (.bool true))], .v (.mv)⟩] [6])
        .ret)
       .skip))
     (.seq
      (.reg [⟨some 24, none, [.t 0], .v (.mv)⟩,
        ⟨some 25, none, [.t 1], .v (.mv)⟩,
        ⟨some 26, none, [.t 24, .t 25], .callI 25 []⟩,
        ⟨some 23, none, [.t 26], .v (.mv)⟩,
        ⟨some 27, none, [.t 23], .v (.ext 0)⟩,
        ⟨some 28, none, [.t 23], .v (.ext 1)⟩,
        ⟨some 7, none, [], .alloc 7 [.int .i64 0, .str [], .int .i64 0, .int .i64 0, .lst []]⟩,
        ⟨none, none, [.t 7, .t 27], .storeL 7 0 5⟩,
        ⟨some 8, none, [.t 28], .v (.mv)⟩] [0, 2, 7, 8])
      (.seq
       (.reg [⟨some 9, none, [.c (.clp [])], .v (.mv)⟩] [0, 2, 7, 8, 9])
       (.seq
        (.reg [⟨some 10, none, [.c (.clp [])], .v (.mv)⟩] [0, 2, 7, 8, 9, 10])
        (.seq
         (.seq
          (.reg [⟨some 11, none, [.c (.pv (.int .i64 0))], .v (.mv)⟩] [0, 2, 7, 8, 9, 10, 11])
          (.block 0
           g11L0))
         (.seq
          (.reg [⟨some 54, none, [.t 7], .loadL 7 0 5 true⟩,
            ⟨some 55, none, [.t 9], .v (.mv)⟩,
            ⟨some 56, none, [.t 54, .t 55], .callP 45⟩,
            ⟨some 57, none, [.t 7], .loadL 7 0 5 true⟩,
            ⟨some 58, none, [.t 9], .v (.mv)⟩,
            ⟨some 59, none, [.t 57, .t 58], .callP 46⟩,
            ⟨some 60, none, [.t 56, .t 59], .callP 20⟩,
            ⟨some 61, none, [.t 60], .v (.mv)⟩,
            ⟨some 62, some (61, true), [.t 7], .loadL 7 0 5 true⟩,
            ⟨some 63, some (61, true), [.t 10], .v (.mv)⟩,
            ⟨some 64, some (61, true), [.t 62, .t 63], .callP 47⟩,
            ⟨some 65, some (61, true), [.t 7], .loadL 7 0 5 true⟩,
            ⟨some 66, some (61, true), [.t 10], .v (.mv)⟩,
            ⟨some 67, some (61, true), [.t 65, .t 66], .callP 48⟩,
            ⟨some 68, some (61, true), [.t 64, .t 67], .callP 20⟩,
            ⟨some 69, none, [.t 61, .t 68, .c (.pv (.bool false))], .v (.pick)⟩,
            ⟨some 70, none, [.t 69], .v (.mv)⟩,
            ⟨some 71, some (70, true), [.t 7], .loadL 7 0 5 true⟩,
            ⟨some 72, some (70, true), [.t 71, .c (.clp [])], .callP 45⟩,
            ⟨some 73, some (70, true), [.t 7], .loadL 7 0 5 true⟩,
            ⟨some 74, some (70, true), [.t 72, .t 73], .callP 20⟩,
            ⟨some 75, none, [.t 70, .t 74, .c (.pv (.bool false))], .v (.pick)⟩,
            ⟨some 6, none, [.t 75], .v (.mv)⟩] [6])
          .ret))))))))⟩

/- typedholes/typedholeslaw13.SubstFactors -/
def g13 : AFunc := ⟨2, 74, [.t 4],
  (.seq
   (.reg [⟨some 4, none, [.c (.pv (.bool false))], .v (.mv)⟩] [0, 1])
   (.seq
    (.seq
     (.reg [⟨some 17, none, [], .callP 14⟩,
       ⟨some 18, none, [.t 17], .v (.un .not)⟩] [0, 1, 18])
     (.cond (.t 18)
      (.seq
       (.reg [⟨some 4, none, [.c (.pv (.bool false))], .v (.mv)⟩] [4])
       .ret)
      .skip))
    (.seq
     (.seq
      (.reg [⟨some 19, none, [.t 1], .v (.mv)⟩,
        ⟨some 20, none, [.t 19], .callP 15⟩,
        ⟨some 21, none, [.t 20], .v (.un .not)⟩] [0, 1, 21])
      (.cond (.t 21)
       (.seq
        (.reg [⟨some 4, none, [.c (.pv (.bool true))], .v (.mv)⟩] [4])
        .ret)
       .skip))
     (.seq
      (.reg [⟨some 23, none, [.t 0], .v (.mv)⟩,
        ⟨some 24, none, [.t 1], .v (.mv)⟩,
        ⟨some 25, none, [.t 23, .t 24], .callI 16 []⟩,
        ⟨some 22, none, [.t 25], .v (.mv)⟩,
        ⟨some 26, none, [.t 22], .v (.ext 0)⟩,
        ⟨some 27, none, [.t 22], .v (.ext 1)⟩,
        ⟨some 28, none, [.t 22], .v (.ext 2)⟩,
        ⟨some 29, none, [.t 22], .v (.ext 3)⟩,
        ⟨some 7, none, [], .alloc 7 [.int .i64 0, .str [], .int .i64 0, .int .i64 0, .lst []]⟩,
        ⟨some 5, none, [.t 26], .v (.mv)⟩,
        ⟨some 6, none, [.t 27], .v (.mv)⟩,
        ⟨none, none, [.t 7, .t 28], .storeL 7 0 5⟩,
        ⟨some 8, none, [.t 29], .v (.mv)⟩] [5, 6])
      (.seq
       (.reg [⟨some 30, none, [.c (.pv (.int .i64 0)), .c (.pv (.int .i64 1)), .c (.pv (.int .i64 2)), .c (.pv (.int .i64 3))], .v (.bslice 1)⟩,
         ⟨some 9, none, [.t 30], .v (.mv)⟩] [5, 6, 9])
       (.seq
        (.reg [⟨some 32, none, [.t 5], .v (.mv)⟩,
          ⟨some 33, none, [.t 6], .v (.mv)⟩,
          ⟨some 34, none, [.t 9], .v (.mv)⟩,
          ⟨some 35, none, [.t 32, .t 33, .t 34], .callP 60⟩,
          ⟨some 31, none, [.t 35], .v (.mv)⟩,
          ⟨some 36, none, [.t 31], .v (.ext 0)⟩,
          ⟨some 37, none, [.t 31], .v (.ext 1)⟩,
          ⟨some 10, none, [.t 36], .v (.mv)⟩,
          ⟨some 11, none, [.t 37], .v (.mv)⟩] [5, 6, 9, 10, 11])
        (.seq
         (.reg [⟨some 39, none, [.t 5], .v (.mv)⟩,
           ⟨some 40, none, [.t 6], .v (.mv)⟩,
           ⟨some 41, none, [.t 9], .v (.mv)⟩,
           ⟨some 42, none, [.t 39, .t 40, .t 41], .callP 61⟩,
           ⟨some 38, none, [.t 42], .v (.mv)⟩,
           ⟨some 43, none, [.t 38], .v (.ext 0)⟩,
           ⟨some 44, none, [.t 38], .v (.ext 1)⟩,
           ⟨some 12, none, [.t 43], .v (.mv)⟩,
           ⟨some 13, none, [.t 44], .v (.mv)⟩] [5, 6, 9, 10, 11, 12, 13])
         (.seq
          (.reg [⟨some 45, none, [.t 5], .v (.mv)⟩,
            ⟨some 46, none, [.t 6], .v (.mv)⟩,
            ⟨some 47, none, [.t 45, .t 46], .callP 19⟩,
            ⟨some 14, none, [.t 47], .v (.mv)⟩] [5, 9, 10, 11, 12, 13, 14])
          (.seq
           (.reg [⟨some 49, none, [.t 5], .v (.mv)⟩,
             ⟨some 50, none, [.t 14], .v (.mv)⟩,
             ⟨some 51, none, [.t 9], .v (.mv)⟩,
             ⟨some 52, none, [.t 49, .t 50, .t 51], .callP 60⟩,
             ⟨some 48, none, [.t 52], .v (.mv)⟩,
             ⟨some 53, none, [.t 48], .v (.ext 0)⟩,
             ⟨some 54, none, [.t 48], .v (.ext 1)⟩,
             ⟨some 15, none, [.t 53], .v (.mv)⟩,
             ⟨some 16, none, [.t 54], .v (.mv)⟩] [5, 9, 10, 11, 12, 13, 14, 15, 16])
           (.seq
            (.reg [⟨some 55, none, [.t 11], .v (.mv)⟩,
              ⟨some 56, none, [.t 13], .v (.mv)⟩,
              ⟨some 57, none, [.t 55, .t 56], .v (.beq false)⟩,
              ⟨some 58, none, [.t 57], .v (.mv)⟩,
              ⟨some 59, some (58, true), [.t 10], .v (.mv)⟩,
              ⟨some 60, some (58, true), [.t 12], .v (.mv)⟩,
              ⟨some 61, some (58, true), [.t 59, .t 60], .callP 18⟩,
              ⟨some 62, none, [.t 58, .t 61, .c (.pv (.bool false))], .v (.pick)⟩,
              ⟨some 63, none, [.t 62], .v (.mv)⟩,
              ⟨some 64, some (63, true), [.t 16], .v (.mv)⟩,
              ⟨some 65, none, [.t 63, .t 64, .c (.pv (.bool false))], .v (.pick)⟩,
              ⟨some 66, none, [.t 65], .v (.mv)⟩,
              ⟨some 67, some (66, true), [.t 5], .v (.mv)⟩,
              ⟨some 68, some (66, true), [.t 15], .v (.mv)⟩,
              ⟨some 69, some (66, true), [.t 67, .t 68], .callP 19⟩,
              ⟨some 70, some (66, true), [.t 14], .v (.mv)⟩,
              ⟨some 71, some (66, true), [.t 9], .v (.mv)⟩,
              ⟨some 72, some (66, true), [.t 69, .t 70, .t 71], .callP 39⟩,
              ⟨some 73, none, [.t 66, .t 72, .c (.pv (.bool false))], .v (.pick)⟩,
              ⟨some 4, none, [.t 73], .v (.mv)⟩] [4])
            .ret))))))))))⟩

/- typedholes/typedholeslaw13.first -/
def g14 : AFunc := ⟨0, 53, [.t 0],
  (.seq
   (.reg [⟨some 0, none, [.c (.pv (.bool false))], .v (.mv)⟩] [])
   (.seq
    (.reg [⟨some 4, none, [.c (.pv (.int .i64 1))], .callP 63⟩,
      ⟨some 5, none, [.t 4], .v (.bslice 5)⟩,
      ⟨some 6, none, [.c (.pv (.str [76, 105, 115, 116])), .t 5], .callP 62⟩,
      ⟨some 7, none, [.c (.pv (.int .i64 0)), .t 6], .v (.build [.int .i64 0, .int .i64 0, .str [], .int .i64 0, .int .i64 0, .lst []] [(0, 1), (1, 5)])⟩,
      ⟨some 8, none, [.t 7], .v (.bslice 6)⟩,
      ⟨some 1, none, [.t 8], .v (.mv)⟩] [1])
    (.seq
     (.reg [⟨some 9, none, [], .callP 34⟩,
       ⟨some 10, none, [.c (.pv (.int .i64 1)), .t 9], .v (.build [.int .i64 0, .int .i64 0, .str [], .int .i64 0, .int .i64 0, .lst []] [(0, 1), (1, 5)])⟩,
       ⟨some 11, none, [.t 10], .v (.bslice 6)⟩,
       ⟨some 2, none, [.t 11], .v (.mv)⟩] [1, 2])
     (.seq
      (.reg [⟨some 12, none, [.t 1], .v (.mv)⟩,
        ⟨some 13, none, [.t 2], .v (.mv)⟩,
        ⟨some 14, none, [.t 12, .t 13], .callP 17⟩,
        ⟨some 3, none, [.t 14], .v (.mv)⟩] [3])
      (.seq
       (.reg [⟨some 15, none, [.t 3], .v (.mv)⟩,
         ⟨some 16, none, [.t 15], .v (.len)⟩,
         ⟨some 17, none, [.t 16, .c (.pv (.int .i64 2))], .v (.bin .eql)⟩,
         ⟨some 18, none, [.t 17], .v (.mv)⟩,
         ⟨some 19, some (18, true), [.t 3], .v (.mv)⟩,
         ⟨some 20, some (18, true), [.t 19, .c (.pv (.int .i64 0))], .v (.iaddr 6)⟩,
         ⟨some 21, some (18, true), [.t 20], .v (.faddr 0)⟩,
         ⟨some 22, some (18, true), [.t 21], .v (.loadE 1 false)⟩,
         ⟨some 23, some (18, true), [.t 22, .c (.pv (.int .i64 0))], .v (.bin .eql)⟩,
         ⟨some 24, none, [.t 18, .t 23, .c (.pv (.bool false))], .v (.pick)⟩,
         ⟨some 25, none, [.t 24], .v (.mv)⟩,
         ⟨some 26, some (25, true), [.t 3], .v (.mv)⟩,
         ⟨some 27, some (25, true), [.t 26, .c (.pv (.int .i64 0))], .v (.iaddr 6)⟩,
         ⟨some 28, some (25, true), [.t 27], .v (.faddr 1)⟩,
         ⟨some 29, some (25, true), [.t 28], .v (.loadE 5 true)⟩,
         ⟨some 30, some (25, true), [], .callP 34⟩,
         ⟨some 31, some (25, true), [.t 30], .v (.bslice 5)⟩,
         ⟨some 32, some (25, true), [.c (.pv (.str [76, 105, 115, 116])), .t 31], .callP 62⟩,
         ⟨some 33, some (25, true), [.t 29, .t 32], .callP 20⟩,
         ⟨some 34, none, [.t 25, .t 33, .c (.pv (.bool false))], .v (.pick)⟩,
         ⟨some 35, none, [.t 34], .v (.mv)⟩,
         ⟨some 36, some (35, true), [.t 3], .v (.mv)⟩,
         ⟨some 37, some (35, true), [.t 36, .c (.pv (.int .i64 1))], .v (.iaddr 6)⟩,
         ⟨some 38, some (35, true), [.t 37], .v (.faddr 0)⟩,
         ⟨some 39, some (35, true), [.t 38], .v (.loadE 1 false)⟩,
         ⟨some 40, some (35, true), [.t 39, .c (.pv (.int .i64 1))], .v (.bin .eql)⟩,
         ⟨some 41, none, [.t 35, .t 40, .c (.pv (.bool false))], .v (.pick)⟩,
         ⟨some 42, none, [.t 41], .v (.mv)⟩,
         ⟨some 43, some (42, true), [.t 3], .v (.mv)⟩,
         ⟨some 44, some (42, true), [.t 43], .callP 41⟩,
         ⟨some 45, none, [.t 42, .t 44, .c (.pv (.bool false))], .v (.pick)⟩,
         ⟨some 46, none, [.t 45], .v (.mv)⟩,
         ⟨some 47, some (46, true), [.t 3], .v (.mv)⟩,
         ⟨some 48, some (46, true), [.c (.pv (.int .i64 1))], .callP 63⟩,
         ⟨some 49, some (46, true), [.t 47, .t 48], .callP 21⟩,
         ⟨some 50, some (46, true), [], .callP 34⟩,
         ⟨some 51, some (46, true), [.t 49, .t 50], .callP 20⟩,
         ⟨some 52, none, [.t 46, .t 51, .c (.pv (.bool false))], .v (.pick)⟩,
         ⟨some 0, none, [.t 52], .v (.mv)⟩] [0])
       .ret)))))⟩

/- typedholes/typedholesmake.Few -/
def g15 : AFunc := ⟨1, 6, [.t 2],
  (.seq
   (.reg [⟨some 2, none, [.c (.pv (.bool false))], .v (.mv)⟩] [0])
   (.seq
    (.reg [⟨some 3, none, [.t 0], .v (.mv)⟩,
      ⟨some 4, none, [.t 3], .v (.len)⟩,
      ⟨some 5, none, [.t 4, .c (.pv (.int .i64 60))], .v (.bin .leq)⟩,
      ⟨some 2, none, [.t 5], .v (.mv)⟩] [2])
    .ret))⟩

/- typedholes/typedholeslaw13.made -/
def g16 : AFunc := ⟨2, 30, [.t 4, .t 5, .c 6 5 true, .t 7],
  (.seq
   (.reg [⟨some 4, none, [.c (.clp [])], .v (.mv)⟩,
     ⟨some 5, none, [.c (.clp [])], .v (.mv)⟩,
     ⟨some 6, none, [], .alloc 6 [.int .i64 0, .str [], .int .i64 0, .int .i64 0, .lst []]⟩,
     ⟨some 7, none, [.c (.nilp)], .v (.mv)⟩] [0, 1, 6])
   (.seq
    (.reg [⟨some 11, none, [.t 1], .v (.mv)⟩,
      ⟨some 12, none, [.t 11], .v (.build [.lst [], .int .i64 0] [(0, 1)])⟩,
      ⟨some 13, none, [.t 12], .boxS 2⟩,
      ⟨some 8, none, [.t 13], .v (.mv)⟩] [0, 6, 8])
    (.seq
     (.reg [⟨some 14, none, [.t 8], .v (.mv)⟩,
       ⟨some 15, none, [.t 0], .v (.mv)⟩,
       ⟨some 16, none, [.t 15], .callP 32⟩,
       ⟨some 17, none, [.t 14, .t 16, .c (.pv (.int .i64 4))], .callI 37 []⟩,
       ⟨some 9, none, [.t 17], .v (.mv)⟩] [0, 6, 8, 9])
     (.seq
      (.reg [⟨some 18, none, [.t 8], .v (.mv)⟩,
        ⟨some 19, none, [.t 0], .v (.mv)⟩,
        ⟨some 20, none, [.t 19], .callP 32⟩,
        ⟨some 21, none, [.t 18, .t 20, .c (.pv (.int .i64 4))], .callI 37 []⟩,
        ⟨some 10, none, [.t 21], .v (.mv)⟩] [0, 6, 8, 9, 10])
      (.seq
       (.reg [⟨some 22, none, [.t 9], .v (.mv)⟩,
         ⟨some 23, none, [.t 10], .v (.mv)⟩,
         ⟨some 24, none, [.t 8], .v (.mv)⟩,
         ⟨some 25, none, [.t 0], .v (.mv)⟩,
         ⟨some 26, none, [.t 25], .callP 32⟩,
         ⟨some 27, none, [], .callP 28⟩,
         ⟨some 28, none, [.t 24, .t 26, .t 27, .c (.pv (.int .i64 3))], .callI 27 []⟩,
         ⟨some 29, none, [.t 8], .v (.mv)⟩,
         ⟨some 4, none, [.t 22], .v (.mv)⟩,
         ⟨some 5, none, [.t 23], .v (.mv)⟩,
         ⟨none, none, [.t 6, .t 28], .storeL 6 0 5⟩,
         ⟨some 7, none, [.t 29], .v (.mv)⟩] [4, 5, 6, 7])
       .ret)))))⟩

/- typedholes/subst.Compose -/
def g17B0 : ACode :=
  (.seq
   (.reg [⟨some 15, none, [.t 14, .t 13], .v (.bin .lss)⟩] [0, 1, 5, 12, 13, 14, 15])
   (.seq
    (.cond (.t 15)
     .skip
     (.exit 0))
    (.seq
     (.block 1
      (.seq
       (.reg [⟨some 16, none, [.t 12, .t 14], .v (.iaddr 6)⟩,
         ⟨some 17, none, [.t 16], .v (.loadE 6 true)⟩,
         ⟨some 7, none, [], .alloc 7 [.int .i64 0, .int .i64 0, .str [], .int .i64 0, .int .i64 0, .lst []]⟩,
         ⟨none, none, [.t 7, .t 17], .storeL 7 0 6⟩] [0, 1, 5, 7, 12, 13, 14])
       (.reg [⟨some 18, none, [.t 5], .v (.mv)⟩,
         ⟨some 19, none, [.t 7], .v (.faddr 0)⟩,
         ⟨some 20, none, [.t 19], .loadL 7 0 1 false⟩,
         ⟨some 21, none, [.t 1], .v (.mv)⟩,
         ⟨some 22, none, [.t 7], .v (.faddr 1)⟩,
         ⟨some 23, none, [.t 22], .loadL 7 1 5 true⟩,
         ⟨some 24, none, [.t 21, .t 23], .callP 21⟩,
         ⟨some 25, none, [.t 20, .t 24], .v (.build [.int .i64 0, .int .i64 0, .str [], .int .i64 0, .int .i64 0, .lst []] [(0, 1), (1, 5)])⟩,
         ⟨some 26, none, [.t 25], .v (.bslice 6)⟩,
         ⟨some 27, none, [.t 18, .t 26], .append 6 72⟩,
         ⟨some 5, none, [.t 27], .v (.mv)⟩] [0, 1, 5, 12, 13, 14])))
     (.reg [⟨some 28, none, [.t 14, .c (.pv (.int .i64 1))], .v (.bin .add)⟩,
       ⟨some 14, none, [.t 28], .v (.mv)⟩] [0, 1, 5, 12, 13, 14]))))
def g17L0 : ACode := .loop [0, 1, 5, 12, 13, 14] g17B0
theorem g17L0_eq {AP : Nat → Option AFunc} {st : St} : cl AP g17L0 st = after (cl AP g17L0) (cl AP g17B0 (norm (restrict [0, 1, 5, 12, 13, 14] st))) := cl_loop
def g17B1 : ACode :=
  (.seq
   (.reg [⟨some 32, none, [.t 31, .t 30], .v (.bin .lss)⟩] [0, 5, 29, 30, 31, 32])
   (.seq
    (.cond (.t 32)
     .skip
     (.exit 2))
    (.seq
     (.block 3
      (.seq
       (.reg [⟨some 33, none, [.t 29, .t 31], .v (.iaddr 6)⟩,
         ⟨some 34, none, [.t 33], .v (.loadE 6 true)⟩,
         ⟨some 9, none, [], .alloc 9 [.int .i64 0, .int .i64 0, .str [], .int .i64 0, .int .i64 0, .lst []]⟩,
         ⟨none, none, [.t 9, .t 34], .storeL 9 0 6⟩] [0, 5, 9, 29, 30, 31])
       (.seq
        (.reg [⟨some 36, none, [.t 0], .v (.mv)⟩,
          ⟨some 37, none, [.t 9], .v (.faddr 0)⟩,
          ⟨some 38, none, [.t 37], .loadL 9 0 1 false⟩,
          ⟨some 39, none, [.t 36, .t 38], .callP 64⟩,
          ⟨some 35, none, [.t 39], .v (.mv)⟩,
          ⟨some 40, none, [.t 35], .v (.ext 0)⟩,
          ⟨some 41, none, [.t 35], .v (.ext 1)⟩,
          ⟨some 10, none, [], .alloc 10 [.int .i64 0, .str [], .int .i64 0, .int .i64 0, .lst []]⟩,
          ⟨none, none, [.t 10, .t 40], .storeL 10 0 5⟩,
          ⟨some 11, none, [.t 41], .v (.mv)⟩] [0, 5, 9, 11, 29, 30, 31])
        (.seq
         (.reg [⟨some 42, none, [.t 11], .v (.mv)⟩,
           ⟨some 43, none, [.t 42], .v (.un .not)⟩] [0, 5, 9, 29, 30, 31, 43])
         (.cond (.t 43)
          (.reg [⟨some 44, none, [.t 5], .v (.mv)⟩,
            ⟨some 45, none, [.t 9], .loadL 9 0 6 true⟩,
            ⟨some 46, none, [.t 45], .v (.bslice 6)⟩,
            ⟨some 47, none, [.t 44, .t 46], .append 6 72⟩,
            ⟨some 5, none, [.t 47], .v (.mv)⟩] [0, 5, 29, 30, 31])
          .skip)))))
     (.reg [⟨some 48, none, [.t 31, .c (.pv (.int .i64 1))], .v (.bin .add)⟩,
       ⟨some 31, none, [.t 48], .v (.mv)⟩] [0, 5, 29, 30, 31]))))
def g17L1 : ACode := .loop [0, 5, 29, 30, 31] g17B1
theorem g17L1_eq {AP : Nat → Option AFunc} {st : St} : cl AP g17L1 st = after (cl AP g17L1) (cl AP g17B1 (norm (restrict [0, 5, 29, 30, 31] st))) := cl_loop
def g17 : AFunc := ⟨2, 50, [.t 4],
  (.seq
   (.reg [⟨some 4, none, [.c (.clp [])], .v (.mv)⟩] [0, 1])
   (.seq
    (.reg [⟨some 5, none, [.c (.clp [])], .v (.mv)⟩] [0, 1, 5])
    (.seq
     (.seq
      (.reg [⟨some 12, none, [.t 0], .v (.mv)⟩,
        ⟨some 13, none, [.t 12], .v (.len)⟩,
        ⟨some 14, none, [.c (.pv (.int .i64 0))], .v (.mv)⟩] [0, 1, 5, 12, 13, 14])
      (.block 0
       g17L0))
     (.seq
      (.seq
       (.reg [⟨some 29, none, [.t 1], .v (.mv)⟩,
         ⟨some 30, none, [.t 29], .v (.len)⟩,
         ⟨some 31, none, [.c (.pv (.int .i64 0))], .v (.mv)⟩] [0, 5, 29, 30, 31])
       (.block 2
        g17L1))
      (.seq
       (.reg [⟨some 49, none, [.t 5], .v (.mv)⟩,
         ⟨some 4, none, [.t 49], .v (.mv)⟩] [4])
       .ret)))))⟩

/- typedholes/typedholeslaw13.same -/
def g18B0 : ACode :=
  (.seq
   (.seq
    (.reg [⟨some 11, none, [.t 5], .v (.mv)⟩,
      ⟨some 12, none, [.t 0], .v (.mv)⟩,
      ⟨some 13, none, [.t 12], .v (.len)⟩,
      ⟨some 14, none, [.t 11, .t 13], .v (.bin .lss)⟩] [0, 1, 5, 14])
    (.cond (.t 14)
     .skip
     (.exit 0)))
   (.seq
    (.block 1
     (.seq
      (.reg [⟨some 17, none, [.t 0], .v (.mv)⟩,
        ⟨some 18, none, [.t 5], .v (.mv)⟩,
        ⟨some 19, none, [.t 17, .t 18], .v (.iaddr 6)⟩,
        ⟨some 20, none, [.t 19], .v (.faddr 0)⟩,
        ⟨some 21, none, [.t 20], .v (.loadE 1 false)⟩,
        ⟨some 22, none, [.t 1], .v (.mv)⟩,
        ⟨some 23, none, [.t 5], .v (.mv)⟩,
        ⟨some 24, none, [.t 22, .t 23], .v (.iaddr 6)⟩,
        ⟨some 25, none, [.t 24], .v (.faddr 0)⟩,
        ⟨some 26, none, [.t 25], .v (.loadE 1 false)⟩,
        ⟨some 27, none, [.t 21, .t 26], .v (.bin .neq)⟩,
        ⟨some 28, none, [.t 27], .v (.mv)⟩,
        ⟨some 29, some (28, false), [.t 0], .v (.mv)⟩,
        ⟨some 30, some (28, false), [.t 5], .v (.mv)⟩,
        ⟨some 31, some (28, false), [.t 29, .t 30], .v (.iaddr 6)⟩,
        ⟨some 32, some (28, false), [.t 31], .v (.faddr 1)⟩,
        ⟨some 33, some (28, false), [.t 32], .v (.loadE 5 true)⟩,
        ⟨some 34, some (28, false), [.t 1], .v (.mv)⟩,
        ⟨some 35, some (28, false), [.t 5], .v (.mv)⟩,
        ⟨some 36, some (28, false), [.t 34, .t 35], .v (.iaddr 6)⟩,
        ⟨some 37, some (28, false), [.t 36], .v (.faddr 1)⟩,
        ⟨some 38, some (28, false), [.t 37], .v (.loadE 5 true)⟩,
        ⟨some 39, some (28, false), [.t 33, .t 38], .callP 20⟩,
        ⟨some 40, some (28, false), [.t 39], .v (.un .not)⟩,
        ⟨some 41, none, [.t 28, .c (.pv (.bool true)), .t 40], .v (.pick)⟩] [0, 1, 5, 41])
      (.cond (.t 41)
       (.seq
        (.reg [⟨some 4, none, [.c (.pv (.bool false))], .v (.mv)⟩] [4])
        .ret)
       .skip)))
    (.reg [⟨some 15, none, [.t 5], .v (.mv)⟩,
      ⟨some 16, none, [.t 15, .c (.pv (.int .i64 1))], .v (.bin .add)⟩,
      ⟨some 5, none, [.t 16], .v (.mv)⟩] [0, 1, 5])))
def g18L0 : ACode := .loop [0, 1, 5] g18B0
theorem g18L0_eq {AP : Nat → Option AFunc} {st : St} : cl AP g18L0 st = after (cl AP g18L0) (cl AP g18B0 (norm (restrict [0, 1, 5] st))) := cl_loop
def g18 : AFunc := ⟨2, 42, [.t 4],
  (.seq
   (.reg [⟨some 4, none, [.c (.pv (.bool false))], .v (.mv)⟩] [0, 1])
   (.seq
    (.seq
     (.reg [⟨some 6, none, [.t 0], .v (.mv)⟩,
       ⟨some 7, none, [.t 6], .v (.len)⟩,
       ⟨some 8, none, [.t 1], .v (.mv)⟩,
       ⟨some 9, none, [.t 8], .v (.len)⟩,
       ⟨some 10, none, [.t 7, .t 9], .v (.bin .neq)⟩] [0, 1, 10])
     (.cond (.t 10)
      (.seq
       (.reg [⟨some 4, none, [.c (.pv (.bool false))], .v (.mv)⟩] [4])
       .ret)
      .skip))
    (.seq
     (.seq
      (.reg [⟨some 5, none, [.c (.pv (.int .i64 0))], .v (.mv)⟩] [0, 1, 5])
      (.block 0
       g18L0))
     (.seq
      (.reg [⟨some 4, none, [.c (.pv (.bool true))], .v (.mv)⟩] [4])
      .ret))))⟩

/- typedholes/typedholesref13.Compose -/
def g19B0 : ACode :=
  (.seq
   (.seq
    (.reg [⟨some 8, none, [.t 6], .v (.mv)⟩,
      ⟨some 9, none, [.t 0], .v (.mv)⟩,
      ⟨some 10, none, [.t 9], .v (.len)⟩,
      ⟨some 11, none, [.t 8, .t 10], .v (.bin .lss)⟩] [0, 1, 5, 6, 11])
    (.cond (.t 11)
     .skip
     (.exit 0)))
   (.seq
    (.block 1
     (.reg [⟨some 14, none, [.t 5], .v (.mv)⟩,
       ⟨some 15, none, [.t 0], .v (.mv)⟩,
       ⟨some 16, none, [.t 6], .v (.mv)⟩,
       ⟨some 17, none, [.t 15, .t 16], .v (.iaddr 6)⟩,
       ⟨some 18, none, [.t 17], .v (.faddr 0)⟩,
       ⟨some 19, none, [.t 18], .v (.loadE 1 false)⟩,
       ⟨some 20, none, [.t 1], .v (.mv)⟩,
       ⟨some 21, none, [.t 0], .v (.mv)⟩,
       ⟨some 22, none, [.t 6], .v (.mv)⟩,
       ⟨some 23, none, [.t 21, .t 22], .v (.iaddr 6)⟩,
       ⟨some 24, none, [.t 23], .v (.faddr 1)⟩,
       ⟨some 25, none, [.t 24], .v (.loadE 5 true)⟩,
       ⟨some 26, none, [.t 20, .t 25], .callP 22⟩,
       ⟨some 27, none, [.t 19, .t 26], .v (.build [.int .i64 0, .int .i64 0, .str [], .int .i64 0, .int .i64 0, .lst []] [(0, 1), (1, 5)])⟩,
       ⟨some 28, none, [.t 27], .v (.bslice 6)⟩,
       ⟨some 29, none, [.t 14, .t 28], .append 6 72⟩,
       ⟨some 5, none, [.t 29], .v (.mv)⟩] [0, 1, 5, 6]))
    (.reg [⟨some 12, none, [.t 6], .v (.mv)⟩,
      ⟨some 13, none, [.t 12, .c (.pv (.int .i64 1))], .v (.bin .add)⟩,
      ⟨some 6, none, [.t 13], .v (.mv)⟩] [0, 1, 5, 6])))
def g19L0 : ACode := .loop [0, 1, 5, 6] g19B0
theorem g19L0_eq {AP : Nat → Option AFunc} {st : St} : cl AP g19L0 st = after (cl AP g19L0) (cl AP g19B0 (norm (restrict [0, 1, 5, 6] st))) := cl_loop
def g19B1 : ACode :=
  (.seq
   (.seq
    (.reg [⟨some 30, none, [.t 7], .v (.mv)⟩,
      ⟨some 31, none, [.t 1], .v (.mv)⟩,
      ⟨some 32, none, [.t 31], .v (.len)⟩,
      ⟨some 33, none, [.t 30, .t 32], .v (.bin .lss)⟩] [0, 1, 5, 7, 33])
    (.cond (.t 33)
     .skip
     (.exit 2)))
   (.seq
    (.block 3
     (.seq
      (.reg [⟨some 36, none, [.t 0], .v (.mv)⟩,
        ⟨some 37, none, [.t 1], .v (.mv)⟩,
        ⟨some 38, none, [.t 7], .v (.mv)⟩,
        ⟨some 39, none, [.t 37, .t 38], .v (.iaddr 6)⟩,
        ⟨some 40, none, [.t 39], .v (.faddr 0)⟩,
        ⟨some 41, none, [.t 40], .v (.loadE 1 false)⟩,
        ⟨some 42, none, [.t 36, .t 41], .callP 65⟩,
        ⟨some 43, none, [.t 42], .v (.un .not)⟩] [0, 1, 5, 7, 43])
      (.cond (.t 43)
       (.reg [⟨some 44, none, [.t 5], .v (.mv)⟩,
         ⟨some 45, none, [.t 1], .v (.mv)⟩,
         ⟨some 46, none, [.t 7], .v (.mv)⟩,
         ⟨some 47, none, [.t 45, .t 46], .v (.iaddr 6)⟩,
         ⟨some 48, none, [.t 47], .v (.loadE 6 true)⟩,
         ⟨some 49, none, [.t 48], .v (.bslice 6)⟩,
         ⟨some 50, none, [.t 44, .t 49], .append 6 72⟩,
         ⟨some 5, none, [.t 50], .v (.mv)⟩] [0, 1, 5, 7])
       .skip)))
    (.reg [⟨some 34, none, [.t 7], .v (.mv)⟩,
      ⟨some 35, none, [.t 34, .c (.pv (.int .i64 1))], .v (.bin .add)⟩,
      ⟨some 7, none, [.t 35], .v (.mv)⟩] [0, 1, 5, 7])))
def g19L1 : ACode := .loop [0, 1, 5, 7] g19B1
theorem g19L1_eq {AP : Nat → Option AFunc} {st : St} : cl AP g19L1 st = after (cl AP g19L1) (cl AP g19B1 (norm (restrict [0, 1, 5, 7] st))) := cl_loop
def g19 : AFunc := ⟨2, 52, [.t 4],
  (.seq
   (.reg [⟨some 4, none, [.c (.clp [])], .v (.mv)⟩] [0, 1])
   (.seq
    (.reg [⟨some 5, none, [.c (.clp [])], .v (.mv)⟩] [0, 1, 5])
    (.seq
     (.seq
      (.reg [⟨some 6, none, [.c (.pv (.int .i64 0))], .v (.mv)⟩] [0, 1, 5, 6])
      (.block 0
       g19L0))
     (.seq
      (.seq
       (.reg [⟨some 7, none, [.c (.pv (.int .i64 0))], .v (.mv)⟩] [0, 1, 5, 7])
       (.block 2
        g19L1))
      (.seq
       (.reg [⟨some 51, none, [.t 5], .v (.mv)⟩,
         ⟨some 4, none, [.t 51], .v (.mv)⟩] [4])
       .ret)))))⟩

/- typedholes/typedholesref3.Equal -/
def g20 : AFunc := ⟨2, 36, [.t 4],
  (.seq
   (.reg [⟨some 2, none, [.t 0], .box 2 5⟩,
     ⟨some 3, none, [.t 1], .box 3 5⟩,
     ⟨some 4, none, [.c (.pv (.bool false))], .v (.mv)⟩] [2, 3])
   (.seq
    (.seq
     (.reg [⟨some 5, none, [.t 2], .v (.faddr 0)⟩,
       ⟨some 6, none, [.t 5], .loadL 2 0 1 false⟩,
       ⟨some 7, none, [.t 3], .v (.faddr 0)⟩,
       ⟨some 8, none, [.t 7], .loadL 3 0 1 false⟩,
       ⟨some 9, none, [.t 6, .t 8], .v (.bin .neq)⟩,
       ⟨some 10, none, [.t 9], .v (.mv)⟩,
       ⟨some 11, some (10, false), [.t 2], .v (.faddr 1)⟩,
       ⟨some 12, some (10, false), [.t 11], .loadL 2 1 1 false⟩,
       ⟨some 13, some (10, false), [.t 3], .v (.faddr 1)⟩,
       ⟨some 14, some (10, false), [.t 13], .loadL 3 1 1 false⟩,
       ⟨some 15, some (10, false), [.t 12, .t 14], .v (.bin .neq)⟩,
       ⟨some 16, none, [.t 10, .c (.pv (.bool true)), .t 15], .v (.pick)⟩,
       ⟨some 17, none, [.t 16], .v (.mv)⟩,
       ⟨some 18, some (17, false), [.t 2], .v (.faddr 2)⟩,
       ⟨some 19, some (17, false), [.t 18], .loadL 2 2 1 false⟩,
       ⟨some 20, some (17, false), [.t 3], .v (.faddr 2)⟩,
       ⟨some 21, some (17, false), [.t 20], .loadL 3 2 1 false⟩,
       ⟨some 22, some (17, false), [.t 19, .t 21], .v (.bin .neq)⟩,
       ⟨some 23, none, [.t 17, .c (.pv (.bool true)), .t 22], .v (.pick)⟩,
       ⟨some 24, none, [.t 23], .v (.mv)⟩,
       ⟨some 25, some (24, false), [.t 2], .v (.faddr 3)⟩,
       ⟨some 26, some (24, false), [.t 25], .loadL 2 3 1 false⟩,
       ⟨some 27, some (24, false), [.t 3], .v (.faddr 3)⟩,
       ⟨some 28, some (24, false), [.t 27], .loadL 3 3 1 false⟩,
       ⟨some 29, some (24, false), [.t 26, .t 28], .v (.bin .neq)⟩,
       ⟨some 30, none, [.t 24, .c (.pv (.bool true)), .t 29], .v (.pick)⟩] [2, 3, 30])
     (.cond (.t 30)
      (.seq
       (.reg [⟨some 4, none, [.c (.pv (.bool false))], .v (.mv)⟩] [4])
       .ret)
      .skip))
    (.seq
     (.reg [⟨some 31, none, [.t 2], .v (.faddr 4)⟩,
       ⟨some 32, none, [.t 31], .loadL 2 4 1 false⟩,
       ⟨some 33, none, [.t 3], .v (.faddr 4)⟩,
       ⟨some 34, none, [.t 33], .loadL 3 4 1 false⟩,
       ⟨some 35, none, [.t 32, .t 34], .callP 57⟩,
       ⟨some 4, none, [.t 35], .v (.mv)⟩] [4])
     .ret)))⟩

/- typedholes/subst.Apply -/
def g21 : AFunc := ⟨2, 8, [.c 4 5 true],
  (.seq
   (.reg [⟨some 3, none, [.t 1], .box 3 5⟩,
     ⟨some 4, none, [], .alloc 4 [.int .i64 0, .str [], .int .i64 0, .int .i64 0, .lst []]⟩] [0, 3, 4])
   (.seq
    (.reg [⟨some 5, none, [.t 3], .loadL 3 0 5 true⟩,
      ⟨some 6, none, [.t 0], .v (.mv)⟩,
      ⟨some 7, none, [.t 5, .t 6], .callP 45⟩,
      ⟨none, none, [.t 4, .t 7], .storeL 4 0 5⟩] [4])
    .ret))⟩

/- typedholes/typedholesref13.Apply -/
def g22 : AFunc := ⟨2, 8, [.c 4 5 true],
  (.seq
   (.reg [⟨some 3, none, [.t 1], .box 3 5⟩,
     ⟨some 4, none, [], .alloc 4 [.int .i64 0, .str [], .int .i64 0, .int .i64 0, .lst []]⟩] [0, 3, 4])
   (.seq
    (.reg [⟨some 5, none, [.t 3], .loadL 3 0 5 true⟩,
      ⟨some 6, none, [.t 0], .v (.mv)⟩,
      ⟨some 7, none, [.t 5, .t 6], .callP 46⟩,
      ⟨none, none, [.t 4, .t 7], .storeL 4 0 5⟩] [4])
    .ret))⟩

/- typedholes/typedholeslaw3.first -/
def g23 : AFunc := ⟨0, 51, [.t 0],
  (.seq
   (.reg [⟨some 0, none, [.c (.pv (.bool false))], .v (.mv)⟩] [])
   (.seq
    (.reg [⟨some 5, none, [.c (.pv (.int .i64 3))], .callP 63⟩,
      ⟨some 6, none, [.c (.pv (.int .i64 1))], .callP 63⟩,
      ⟨some 1, none, [], .alloc 1 [.int .i64 0, .str [], .int .i64 0, .int .i64 0, .lst []]⟩,
      ⟨some 2, none, [], .alloc 2 [.int .i64 0, .str [], .int .i64 0, .int .i64 0, .lst []]⟩,
      ⟨none, none, [.t 1, .t 5], .storeL 1 0 5⟩,
      ⟨none, none, [.t 2, .t 6], .storeL 2 0 5⟩] [1, 2])
    (.seq
     (.reg [⟨some 7, none, [.t 1], .loadL 1 0 5 true⟩,
       ⟨some 8, none, [.t 2], .loadL 2 0 5 true⟩,
       ⟨some 9, none, [.t 7, .t 8], .callP 66⟩,
       ⟨some 10, none, [.t 1], .loadL 1 0 5 true⟩,
       ⟨some 11, none, [.t 9, .t 10], .callP 66⟩,
       ⟨some 12, none, [.t 11], .v (.bslice 5)⟩,
       ⟨some 13, none, [.t 12], .callP 55⟩,
       ⟨some 3, none, [.t 13], .v (.mv)⟩] [1, 2, 3])
     (.seq
      (.reg [⟨some 14, none, [.c (.pv (.int .i64 0))], .callP 63⟩,
        ⟨some 15, none, [.t 2], .loadL 2 0 5 true⟩,
        ⟨some 16, none, [.c (.pv (.int .i64 0)), .t 15], .v (.build [.int .i64 0, .int .i64 0, .str [], .int .i64 0, .int .i64 0, .lst []] [(0, 1), (1, 5)])⟩,
        ⟨some 17, none, [], .callP 34⟩,
        ⟨some 18, none, [.c (.pv (.int .i64 1)), .t 17], .v (.build [.int .i64 0, .int .i64 0, .str [], .int .i64 0, .int .i64 0, .lst []] [(0, 1), (1, 5)])⟩,
        ⟨some 19, none, [.t 16, .t 18], .v (.bslice 6)⟩,
        ⟨some 20, none, [.t 14, .t 19], .callP 45⟩,
        ⟨some 4, none, [], .alloc 4 [.int .i64 0, .str [], .int .i64 0, .int .i64 0, .lst []]⟩,
        ⟨none, none, [.t 4, .t 20], .storeL 4 0 5⟩] [1, 2, 3, 4])
      (.seq
       (.reg [⟨some 21, none, [.t 3], .v (.mv)⟩,
         ⟨some 22, none, [.t 21], .v (.len)⟩,
         ⟨some 23, none, [.t 22, .c (.pv (.int .i64 2))], .v (.bin .eql)⟩,
         ⟨some 24, none, [.t 23], .v (.mv)⟩,
         ⟨some 25, some (24, true), [.t 3], .v (.mv)⟩,
         ⟨some 26, some (24, true), [.t 25, .c (.pv (.int .i64 0))], .v (.iaddr 1)⟩,
         ⟨some 27, some (24, true), [.t 26], .v (.loadE 1 false)⟩,
         ⟨some 28, some (24, true), [.t 27, .c (.pv (.int .i64 3))], .v (.bin .eql)⟩,
         ⟨some 29, none, [.t 24, .t 28, .c (.pv (.bool false))], .v (.pick)⟩,
         ⟨some 30, none, [.t 29], .v (.mv)⟩,
         ⟨some 31, some (30, true), [.t 3], .v (.mv)⟩,
         ⟨some 32, some (30, true), [.t 31, .c (.pv (.int .i64 1))], .v (.iaddr 1)⟩,
         ⟨some 33, some (30, true), [.t 32], .v (.loadE 1 false)⟩,
         ⟨some 34, some (30, true), [.t 33, .c (.pv (.int .i64 1))], .v (.bin .eql)⟩,
         ⟨some 35, none, [.t 30, .t 34, .c (.pv (.bool false))], .v (.pick)⟩,
         ⟨some 36, none, [.t 35], .v (.mv)⟩,
         ⟨some 37, some (36, true), [.t 4], .loadL 4 0 5 true⟩,
         ⟨some 38, some (36, true), [.t 2], .loadL 2 0 5 true⟩,
         ⟨some 39, some (36, true), [.t 37, .t 38], .callP 33⟩,
         ⟨some 40, none, [.t 36, .t 39, .c (.pv (.bool false))], .v (.pick)⟩,
         ⟨some 41, none, [.t 40], .v (.mv)⟩,
         ⟨some 42, some (41, true), [.t 1], .loadL 1 0 5 true⟩,
         ⟨some 43, some (41, true), [.t 2], .loadL 2 0 5 true⟩,
         ⟨some 44, some (41, true), [.t 42, .t 43], .callP 33⟩,
         ⟨some 45, some (41, true), [.t 44], .v (.un .not)⟩,
         ⟨some 46, none, [.t 41, .t 45, .c (.pv (.bool false))], .v (.pick)⟩,
         ⟨some 47, none, [.t 46], .v (.mv)⟩,
         ⟨some 48, some (47, true), [.t 1], .loadL 1 0 5 true⟩,
         ⟨some 49, some (47, true), [.t 48], .callP 29⟩,
         ⟨some 50, none, [.t 47, .t 49, .c (.pv (.bool false))], .v (.pick)⟩,
         ⟨some 0, none, [.t 50], .v (.mv)⟩] [0])
       .ret)))))⟩

/- typedholes/typedholeslaw3.small -/
def g24 : AFunc := ⟨1, 5, [.t 2],
  (.seq
   (.reg [⟨some 1, none, [.t 0], .box 1 5⟩,
     ⟨some 2, none, [.c (.pv (.bool false))], .v (.mv)⟩] [1])
   (.seq
    (.reg [⟨some 3, none, [.t 1], .loadL 1 0 5 true⟩,
      ⟨some 4, none, [.t 3, .c (.pv (.int .i64 60))], .callP 40⟩,
      ⟨some 2, none, [.t 4], .v (.mv)⟩] [2])
    .ret))⟩

/- typedholes/typedholeslaw3.made -/
def g25 : AFunc := ⟨2, 18, [.c 4 5 true, .t 5],
  (.seq
   (.reg [⟨some 4, none, [], .alloc 4 [.int .i64 0, .str [], .int .i64 0, .int .i64 0, .lst []]⟩,
     ⟨some 5, none, [.c (.nilp)], .v (.mv)⟩] [0, 1, 4])
   (.seq
    (.reg [⟨some 7, none, [.t 1], .v (.mv)⟩,
      ⟨some 8, none, [.t 7], .v (.build [.lst [], .int .i64 0] [(0, 1)])⟩,
      ⟨some 9, none, [.t 8], .boxS 2⟩,
      ⟨some 6, none, [.t 9], .v (.mv)⟩] [0, 4, 6])
    (.seq
     (.reg [⟨some 10, none, [.t 6], .v (.mv)⟩,
       ⟨some 11, none, [.t 0], .v (.mv)⟩,
       ⟨some 12, none, [.t 11], .callP 32⟩,
       ⟨some 13, none, [], .callI 28 []⟩,
       ⟨some 14, none, [], .callP 67⟩,
       ⟨some 15, none, [.t 13, .t 14], .append 5 64⟩,
       ⟨some 16, none, [.t 10, .t 12, .t 15, .c (.pv (.int .i64 4))], .callI 27 []⟩,
       ⟨some 17, none, [.t 6], .v (.mv)⟩,
       ⟨none, none, [.t 4, .t 16], .storeL 4 0 5⟩,
       ⟨some 5, none, [.t 17], .v (.mv)⟩] [4, 5])
     .ret)))⟩

/- typedholes/typedholesmake.Mod -/
def g26 : AFunc := ⟨2, 16, [.t 4],
  (.seq
   (.reg [⟨some 4, none, [.c (.pv (.int .i64 0))], .v (.mv)⟩] [0, 1])
   (.seq
    (.seq
     (.reg [⟨some 5, none, [.t 1], .v (.mv)⟩,
       ⟨some 6, none, [.t 5, .c (.pv (.int .i64 1))], .v (.bin .lss)⟩] [0, 1, 6])
     (.cond (.t 6)
      (.seq
       (.reg [⟨some 4, none, [.c (.pv (.int .i64 0))], .v (.mv)⟩] [4])
       .ret)
      .skip))
    (.seq
     (.reg [⟨some 7, none, [.t 0], .v (.mv)⟩,
       ⟨some 8, none, [.t 1], .v (.mv)⟩,
       ⟨some 9, none, [.t 7, .t 8], .v (.bin .rem)⟩,
       ⟨some 0, none, [.t 9], .v (.mv)⟩] [0, 1])
     (.seq
      (.seq
       (.reg [⟨some 10, none, [.t 0], .v (.mv)⟩,
         ⟨some 11, none, [.t 10, .c (.pv (.int .i64 0))], .v (.bin .lss)⟩] [0, 1, 11])
       (.cond (.t 11)
        (.reg [⟨some 12, none, [.t 0], .v (.mv)⟩,
          ⟨some 13, none, [.t 1], .v (.mv)⟩,
          ⟨some 14, none, [.t 12, .t 13], .v (.bin .add)⟩,
          ⟨some 0, none, [.t 14], .v (.mv)⟩] [0])
        .skip))
      (.seq
       (.reg [⟨some 15, none, [.t 0], .v (.mv)⟩,
         ⟨some 4, none, [.t 15], .v (.mv)⟩] [4])
       .ret)))))⟩

/- (*typedholes/typedholesmake.Tape).Type -/
def g27B0 : ACode :=
  (.seq
   (.seq
    (.reg [⟨some 61, none, [.t 12], .v (.mv)⟩,
      ⟨some 62, none, [.t 10], .v (.faddr 2)⟩,
      ⟨some 63, none, [.t 62], .loadL 10 2 1 false⟩,
      ⟨some 64, none, [.t 63], .v (.len)⟩,
      ⟨some 65, none, [.t 61, .t 64], .v (.bin .lss)⟩] [0, 1, 2, 3, 8, 10, 11, 12, 65])
    (.cond (.t 65)
     .skip
     (.exit 1)))
   (.seq
    (.block 2
     (.reg [⟨some 68, none, [.t 11], .v (.mv)⟩,
       ⟨some 69, none, [.t 0], .v (.mv)⟩,
       ⟨some 70, none, [.t 1], .v (.mv)⟩,
       ⟨some 71, none, [.t 2], .v (.mv)⟩,
       ⟨some 72, none, [.t 3], .v (.mv)⟩,
       ⟨some 73, none, [.t 72, .c (.pv (.int .i64 1))], .v (.bin .sub)⟩,
       ⟨some 74, none, [.t 69, .t 70, .t 71, .t 73], .callI 27 []⟩,
       ⟨some 75, none, [.t 74], .v (.bslice 5)⟩,
       ⟨some 76, none, [.t 68, .t 75], .append 5 64⟩,
       ⟨some 11, none, [.t 76], .v (.mv)⟩] [0, 1, 2, 3, 8, 10, 11, 12]))
    (.reg [⟨some 66, none, [.t 12], .v (.mv)⟩,
      ⟨some 67, none, [.t 66, .c (.pv (.int .i64 1))], .v (.bin .add)⟩,
      ⟨some 12, none, [.t 67], .v (.mv)⟩] [0, 1, 2, 3, 8, 10, 11, 12])))
def g27L0 : ACode := .loop [0, 1, 2, 3, 8, 10, 11, 12] g27B0
theorem g27L0_eq {AP : Nat → Option AFunc} {st : St} : cl AP g27L0 st = after (cl AP g27L0) (cl AP g27B0 (norm (restrict [0, 1, 2, 3, 8, 10, 11, 12] st))) := cl_loop
def g27 : AFunc := ⟨4, 95, [.c 8 5 true],
  (.seq
   (.reg [⟨some 8, none, [], .alloc 8 [.int .i64 0, .str [], .int .i64 0, .int .i64 0, .lst []]⟩] [0, 1, 2, 3, 8])
   (.seq
    (.reg [⟨some 14, none, [.t 0], .v (.mv)⟩,
      ⟨some 15, none, [.t 14, .c (.pv (.int .i64 7))], .callI 68 []⟩,
      ⟨some 9, none, [.t 15], .v (.mv)⟩] [0, 1, 2, 3, 8, 9])
    (.seq
     (.block 0
      (.seq
       (.reg [⟨some 17, none, [.t 9], .v (.mv)⟩,
         ⟨some 18, none, [.t 17, .c (.pv (.int .i64 3))], .v (.bin .lss)⟩,
         ⟨some 19, none, [.t 18], .v (.mv)⟩,
         ⟨some 20, some (19, true), [.t 2], .v (.mv)⟩,
         ⟨some 21, some (19, true), [.t 20], .v (.len)⟩,
         ⟨some 22, some (19, true), [.t 21, .c (.pv (.int .i64 0))], .v (.bin .gtr)⟩,
         ⟨some 23, none, [.t 19, .t 22, .c (.pv (.bool false))], .v (.pick)⟩,
         ⟨some 16, none, [.t 23], .v (.mv)⟩] [0, 1, 2, 3, 8, 9, 16])
       (.cond (.t 16)
        (.seq
         (.reg [⟨some 24, none, [.t 2], .v (.mv)⟩,
           ⟨some 25, none, [.t 0], .v (.mv)⟩,
           ⟨some 26, none, [.t 2], .v (.mv)⟩,
           ⟨some 27, none, [.t 26], .v (.len)⟩,
           ⟨some 28, none, [.t 25, .t 27], .callI 68 []⟩,
           ⟨some 29, none, [.t 24, .t 28], .v (.iaddr 5)⟩,
           ⟨some 30, none, [.t 29], .loadS 5 true⟩,
           ⟨none, none, [.t 8, .t 30], .storeL 8 0 5⟩] [8])
         .ret)
        (.seq
         (.reg [⟨some 32, none, [.t 9], .v (.mv)⟩,
           ⟨some 33, none, [.t 32, .c (.pv (.int .i64 4))], .v (.bin .lss)⟩,
           ⟨some 34, none, [.t 33], .v (.mv)⟩,
           ⟨some 35, some (34, false), [.t 3], .v (.mv)⟩,
           ⟨some 36, some (34, false), [.t 35, .c (.pv (.int .i64 1))], .v (.bin .lss)⟩,
           ⟨some 37, none, [.t 34, .c (.pv (.bool true)), .t 36], .v (.pick)⟩,
           ⟨some 31, none, [.t 37], .v (.mv)⟩] [0, 1, 2, 3, 8, 9, 31])
         (.cond (.t 31)
          (.seq
           (.reg [⟨some 38, none, [], .callP 34⟩,
             ⟨none, none, [.t 8, .t 38], .storeL 8 0 5⟩] [8])
           .ret)
          (.seq
           (.seq
            (.reg [⟨some 40, none, [.t 9], .v (.mv)⟩,
              ⟨some 41, none, [.t 40, .c (.pv (.int .i64 4))], .v (.bin .eql)⟩,
              ⟨some 42, none, [.t 41], .v (.mv)⟩,
              ⟨some 43, some (42, true), [.t 1], .v (.mv)⟩,
              ⟨some 44, some (42, true), [.t 43], .v (.len)⟩,
              ⟨some 45, some (42, true), [.t 44, .c (.pv (.int .i64 0))], .v (.bin .gtr)⟩,
              ⟨some 46, none, [.t 42, .t 45, .c (.pv (.bool false))], .v (.pick)⟩,
              ⟨some 39, none, [.t 46], .v (.mv)⟩] [0, 1, 2, 3, 8, 9, 39])
            (.cond (.t 39)
             .skip
             (.reg [⟨some 47, none, [.t 9], .v (.mv)⟩,
               ⟨some 48, none, [.t 47, .c (.pv (.int .i64 5))], .v (.bin .eql)⟩,
               ⟨some 49, none, [.t 48], .v (.mv)⟩,
               ⟨some 50, some (49, true), [.t 1], .v (.mv)⟩,
               ⟨some 51, some (49, true), [.t 50], .v (.len)⟩,
               ⟨some 52, some (49, true), [.t 51, .c (.pv (.int .i64 0))], .v (.bin .gtr)⟩,
               ⟨some 53, none, [.t 49, .t 52, .c (.pv (.bool false))], .v (.pick)⟩,
               ⟨some 39, none, [.t 53], .v (.mv)⟩] [0, 1, 2, 3, 8, 39])))
           (.cond (.t 39)
            (.seq
             (.reg [⟨some 54, none, [.t 1], .v (.mv)⟩,
               ⟨some 55, none, [.t 0], .v (.mv)⟩,
               ⟨some 56, none, [.t 1], .v (.mv)⟩,
               ⟨some 57, none, [.t 56], .v (.len)⟩,
               ⟨some 58, none, [.t 55, .t 57], .callI 68 []⟩,
               ⟨some 59, none, [.t 54, .t 58], .v (.iaddr 4)⟩,
               ⟨some 60, none, [.t 59], .loadS 4 true⟩,
               ⟨some 10, none, [], .alloc 10 [.int .i64 0, .str [], .lst [], .lst []]⟩,
               ⟨none, none, [.t 10, .t 60], .storeL 10 0 4⟩] [0, 1, 2, 3, 8, 10])
             (.seq
              (.reg [⟨some 11, none, [.c (.clp [])], .v (.mv)⟩] [0, 1, 2, 3, 8, 10, 11])
              (.seq
               (.seq
                (.reg [⟨some 12, none, [.c (.pv (.int .i64 0))], .v (.mv)⟩] [0, 1, 2, 3, 8, 10, 11, 12])
                (.block 1
                 g27L0))
               (.seq
                (.reg [⟨some 77, none, [.t 10], .v (.faddr 1)⟩,
                  ⟨some 78, none, [.t 77], .loadL 10 1 1 false⟩,
                  ⟨some 79, none, [.t 11], .v (.mv)⟩,
                  ⟨some 80, none, [.t 78, .t 79], .callP 62⟩,
                  ⟨none, none, [.t 8, .t 80], .storeL 8 0 5⟩] [8])
                .ret))))
            .skip)))))))
     (.seq
      (.reg [⟨some 81, none, [.t 0], .v (.mv)⟩,
        ⟨some 82, none, [.t 1], .v (.mv)⟩,
        ⟨some 83, none, [.t 2], .v (.mv)⟩,
        ⟨some 84, none, [.t 3], .v (.mv)⟩,
        ⟨some 85, none, [.t 84, .c (.pv (.int .i64 1))], .v (.bin .sub)⟩,
        ⟨some 86, none, [.t 81, .t 82, .t 83, .t 85], .callI 27 []⟩,
        ⟨some 13, none, [], .alloc 13 [.int .i64 0, .str [], .int .i64 0, .int .i64 0, .lst []]⟩,
        ⟨none, none, [.t 13, .t 86], .storeL 13 0 5⟩] [0, 1, 2, 3, 8, 13])
      (.seq
       (.reg [⟨some 87, none, [.t 13], .loadL 13 0 5 true⟩,
         ⟨some 88, none, [.t 0], .v (.mv)⟩,
         ⟨some 89, none, [.t 1], .v (.mv)⟩,
         ⟨some 90, none, [.t 2], .v (.mv)⟩,
         ⟨some 91, none, [.t 3], .v (.mv)⟩,
         ⟨some 92, none, [.t 91, .c (.pv (.int .i64 1))], .v (.bin .sub)⟩,
         ⟨some 93, none, [.t 88, .t 89, .t 90, .t 92], .callI 27 []⟩,
         ⟨some 94, none, [.t 87, .t 93], .callP 69⟩,
         ⟨none, none, [.t 8, .t 94], .storeL 8 0 5⟩] [8])
       .ret)))))⟩

/- typedholes/typedholesmake.Leaves -/
def g28 : AFunc := ⟨0, 8, [.t 0],
  (.seq
   (.reg [⟨some 0, none, [.c (.clp [])], .v (.mv)⟩] [])
   (.seq
    (.reg [⟨some 1, none, [.c (.pv (.int .i64 4))], .callI 70 []⟩,
      ⟨some 2, none, [.c (.pv (.int .i64 0)), .c (.pv (.int .i64 0))], .callP 71⟩,
      ⟨some 3, none, [.c (.pv (.int .i64 1)), .c (.pv (.int .i64 0))], .callP 71⟩,
      ⟨some 4, none, [.c (.pv (.int .i64 (-1))), .c (.pv (.int .i64 2))], .callP 71⟩,
      ⟨some 5, none, [.c (.pv (.int .i64 0))], .callP 72⟩,
      ⟨some 6, none, [.t 2, .t 3, .t 4, .t 5], .v (.bslice 5)⟩,
      ⟨some 7, none, [.t 1, .t 6], .append 5 64⟩,
      ⟨some 0, none, [.t 7], .v (.mv)⟩] [0])
    .ret))⟩

/- typedholes/types.Valid -/
def g29 : AFunc := ⟨1, 92, [.t 2],
  (.seq
   (.reg [⟨some 1, none, [.t 0], .box 1 5⟩,
     ⟨some 2, none, [.c (.pv (.bool false))], .v (.mv)⟩] [1])
   (.seq
    (.reg [⟨some 4, none, [.t 1], .v (.faddr 1)⟩,
      ⟨some 5, none, [.t 4], .loadL 1 1 1 false⟩,
      ⟨some 6, none, [.t 5, .c (.pv (.str []))], .v (.bin .eql)⟩,
      ⟨some 7, none, [.t 6], .v (.mv)⟩,
      ⟨some 8, some (7, true), [.t 1], .v (.faddr 4)⟩,
      ⟨some 9, some (7, true), [.t 8], .loadL 1 4 1 false⟩,
      ⟨some 10, some (7, true), [.t 9], .v (.len)⟩,
      ⟨some 11, some (7, true), [.t 10, .c (.pv (.int .i64 0))], .v (.bin .eql)⟩,
      ⟨some 12, none, [.t 7, .t 11, .c (.pv (.bool false))], .v (.pick)⟩,
      ⟨some 13, none, [.t 12], .v (.mv)⟩,
      ⟨some 14, some (13, true), [.t 1], .v (.faddr 2)⟩,
      ⟨some 15, some (13, true), [.t 14], .loadL 1 2 1 false⟩,
      ⟨some 16, some (13, true), [.t 15, .c (.pv (.int .i64 0))], .v (.bin .geq)⟩,
      ⟨some 17, none, [.t 13, .t 16, .c (.pv (.bool false))], .v (.pick)⟩,
      ⟨some 18, none, [.t 17], .v (.mv)⟩,
      ⟨some 19, some (18, true), [.t 1], .v (.faddr 2)⟩,
      ⟨some 20, some (18, true), [.t 19], .loadL 1 2 1 false⟩,
      ⟨some 21, some (18, true), [.t 20, .c (.pv (.int .i64 1000000))], .v (.bin .leq)⟩,
      ⟨some 22, none, [.t 18, .t 21, .c (.pv (.bool false))], .v (.pick)⟩,
      ⟨some 3, none, [.t 22], .v (.mv)⟩] [1, 3])
    (.seq
     (.seq
      (.reg [⟨some 23, none, [.t 1], .v (.faddr 0)⟩,
        ⟨some 24, none, [.t 23], .loadL 1 0 1 false⟩] [1, 3, 24])
      (.block 0
       (.seq
        (.seq
         (.reg [⟨some 26, none, [.t 24, .c (.pv (.int .i64 1))], .v (.bin .eql)⟩,
           ⟨some 25, none, [.t 26], .v (.mv)⟩] [1, 3, 24, 25])
         (.cond (.t 25)
          .skip
          (.reg [⟨some 27, none, [.t 24, .c (.pv (.int .i64 2))], .v (.bin .eql)⟩,
            ⟨some 25, none, [.t 27], .v (.mv)⟩] [1, 3, 24, 25])))
        (.cond (.t 25)
         (.seq
          (.reg [⟨some 28, none, [.t 3], .v (.mv)⟩,
            ⟨some 29, none, [.t 28], .v (.mv)⟩,
            ⟨some 30, some (29, true), [.t 1], .v (.faddr 3)⟩,
            ⟨some 31, some (29, true), [.t 30], .loadL 1 3 1 false⟩,
            ⟨some 32, some (29, true), [.t 31, .c (.pv (.int .i64 0))], .v (.bin .eql)⟩,
            ⟨some 33, none, [.t 29, .t 32, .c (.pv (.bool false))], .v (.pick)⟩,
            ⟨some 2, none, [.t 33], .v (.mv)⟩] [2])
          .ret)
         (.seq
          (.reg [⟨some 35, none, [.t 24, .c (.pv (.int .i64 3))], .v (.bin .eql)⟩,
            ⟨some 34, none, [.t 35], .v (.mv)⟩] [1, 3, 24, 34])
          (.cond (.t 34)
           (.seq
            (.reg [⟨some 36, none, [.t 3], .v (.mv)⟩,
              ⟨some 37, none, [.t 36], .v (.mv)⟩,
              ⟨some 38, some (37, true), [.t 1], .v (.faddr 3)⟩,
              ⟨some 39, some (37, true), [.t 38], .loadL 1 3 1 false⟩,
              ⟨some 40, some (37, true), [.t 39, .c (.pv (.int .i64 (-1)))], .v (.bin .geq)⟩,
              ⟨some 41, none, [.t 37, .t 40, .c (.pv (.bool false))], .v (.pick)⟩,
              ⟨some 42, none, [.t 41], .v (.mv)⟩,
              ⟨some 43, some (42, true), [.t 1], .v (.faddr 3)⟩,
              ⟨some 44, some (42, true), [.t 43], .loadL 1 3 1 false⟩,
              ⟨some 45, some (42, true), [.t 44, .c (.pv (.int .i64 1000000))], .v (.bin .leq)⟩,
              ⟨some 46, none, [.t 42, .t 45, .c (.pv (.bool false))], .v (.pick)⟩,
              ⟨some 2, none, [.t 46], .v (.mv)⟩] [2])
            .ret)
           (.seq
            (.reg [⟨some 48, none, [.t 24, .c (.pv (.int .i64 5))], .v (.bin .eql)⟩,
              ⟨some 47, none, [.t 48], .v (.mv)⟩] [1, 24, 47])
            (.cond (.t 47)
             (.seq
              (.reg [⟨some 49, none, [.t 1], .v (.faddr 4)⟩,
                ⟨some 50, none, [.t 49], .loadL 1 4 1 false⟩,
                ⟨some 51, none, [.t 50], .v (.len)⟩,
                ⟨some 52, none, [.t 51, .c (.pv (.int .i64 0))], .v (.bin .eql)⟩,
                ⟨some 53, none, [.t 52], .v (.mv)⟩,
                ⟨some 54, some (53, true), [.t 1], .v (.faddr 2)⟩,
                ⟨some 55, some (53, true), [.t 54], .loadL 1 2 1 false⟩,
                ⟨some 56, some (53, true), [.t 55, .c (.pv (.int .i64 0))], .v (.bin .eql)⟩,
                ⟨some 57, none, [.t 53, .t 56, .c (.pv (.bool false))], .v (.pick)⟩,
                ⟨some 58, none, [.t 57], .v (.mv)⟩,
                ⟨some 59, some (58, true), [.t 1], .v (.faddr 3)⟩,
                ⟨some 60, some (58, true), [.t 59], .loadL 1 3 1 false⟩,
                ⟨some 61, some (58, true), [.t 60, .c (.pv (.int .i64 0))], .v (.bin .eql)⟩,
                ⟨some 62, none, [.t 58, .t 61, .c (.pv (.bool false))], .v (.pick)⟩,
                ⟨some 63, none, [.t 62], .v (.mv)⟩,
                ⟨some 64, some (63, true), [.t 1], .v (.faddr 1)⟩,
                ⟨some 65, some (63, true), [.t 64], .loadL 1 1 1 false⟩,
                ⟨some 66, some (63, true), [.t 65, .c (.pv (.int .u8 97)), .c (.pv (.int .u8 122))], .callP 73⟩,
                ⟨some 67, none, [.t 63, .t 66, .c (.pv (.bool false))], .v (.pick)⟩,
                ⟨some 2, none, [.t 67], .v (.mv)⟩] [2])
              .ret)
             (.seq
              (.reg [⟨some 69, none, [.t 24, .c (.pv (.int .i64 4))], .v (.bin .eql)⟩,
                ⟨some 68, none, [.t 69], .v (.mv)⟩] [1, 68])
              (.cond (.t 68)
               (.seq
                (.reg [⟨some 70, none, [.t 1], .v (.faddr 2)⟩,
                  ⟨some 71, none, [.t 70], .loadL 1 2 1 false⟩,
                  ⟨some 72, none, [.t 71, .c (.pv (.int .i64 0))], .v (.bin .eql)⟩,
                  ⟨some 73, none, [.t 72], .v (.mv)⟩,
                  ⟨some 74, some (73, true), [.t 1], .v (.faddr 3)⟩,
                  ⟨some 75, some (73, true), [.t 74], .loadL 1 3 1 false⟩,
                  ⟨some 76, some (73, true), [.t 75, .c (.pv (.int .i64 0))], .v (.bin .eql)⟩,
                  ⟨some 77, none, [.t 73, .t 76, .c (.pv (.bool false))], .v (.pick)⟩,
                  ⟨some 78, none, [.t 77], .v (.mv)⟩,
                  ⟨some 79, some (78, true), [.t 1], .v (.faddr 1)⟩,
                  ⟨some 80, some (78, true), [.t 79], .loadL 1 1 1 false⟩,
                  ⟨some 81, some (78, true), [.t 1], .v (.faddr 4)⟩,
                  ⟨some 82, some (78, true), [.t 81], .loadL 1 4 1 false⟩,
                  ⟨some 83, some (78, true), [.t 82], .v (.len)⟩,
                  ⟨some 84, some (78, true), [.t 80, .t 83], .callP 74⟩,
                  ⟨some 85, none, [.t 78, .t 84, .c (.pv (.bool false))], .v (.pick)⟩,
                  ⟨some 86, none, [.t 85], .v (.mv)⟩,
                  ⟨some 87, some (86, true), [.t 1], .v (.faddr 4)⟩,
                  ⟨some 88, some (86, true), [.t 87], .loadL 1 4 1 false⟩,
                  ⟨some 89, some (86, true), [.t 88, .c (.fn 76 [])], .callI 75 []⟩,
                  ⟨some 90, some (86, true), [.t 89], .v (.un .not)⟩,
                  ⟨some 91, none, [.t 86, .t 90, .c (.pv (.bool false))], .v (.pick)⟩,
                  ⟨some 2, none, [.t 91], .v (.mv)⟩] [2])
                .ret)
               .skip))))))))))
     (.seq
      (.reg [⟨some 2, none, [.c (.pv (.bool false))], .v (.mv)⟩] [2])
      .ret))))⟩

/- typedholes/typedholesref3.Valid -/
def g30B0 : ACode :=
  (.seq
   (.seq
    (.reg [⟨some 95, none, [.t 3], .v (.mv)⟩,
      ⟨some 96, none, [.t 1], .v (.faddr 4)⟩,
      ⟨some 97, none, [.t 96], .loadL 1 4 1 false⟩,
      ⟨some 98, none, [.t 97], .v (.len)⟩,
      ⟨some 99, none, [.t 95, .t 98], .v (.bin .lss)⟩] [1, 3, 99])
    (.cond (.t 99)
     .skip
     (.exit 1)))
   (.seq
    (.block 2
     (.seq
      (.reg [⟨some 102, none, [.t 1], .v (.faddr 4)⟩,
        ⟨some 103, none, [.t 102], .loadL 1 4 1 false⟩,
        ⟨some 104, none, [.t 3], .v (.mv)⟩,
        ⟨some 105, none, [.t 103, .t 104], .v (.iaddr 5)⟩,
        ⟨some 106, none, [.t 105], .v (.loadE 5 true)⟩,
        ⟨some 107, none, [.t 106], .callP 30⟩,
        ⟨some 108, none, [.t 107], .v (.un .not)⟩] [1, 3, 108])
      (.cond (.t 108)
       (.seq
        (.reg [⟨some 2, none, [.c (.pv (.bool false))], .v (.mv)⟩] [2])
        .ret)
       .skip)))
    (.reg [⟨some 100, none, [.t 3], .v (.mv)⟩,
      ⟨some 101, none, [.t 100, .c (.pv (.int .i64 1))], .v (.bin .add)⟩,
      ⟨some 3, none, [.t 101], .v (.mv)⟩] [1, 3])))
def g30L0 : ACode := .loop [1, 3] g30B0
theorem g30L0_eq {AP : Nat → Option AFunc} {st : St} : cl AP g30L0 st = after (cl AP g30L0) (cl AP g30B0 (norm (restrict [1, 3] st))) := cl_loop
def g30 : AFunc := ⟨1, 132, [.t 2],
  (.seq
   (.reg [⟨some 1, none, [.t 0], .box 1 5⟩,
     ⟨some 2, none, [.c (.pv (.bool false))], .v (.mv)⟩] [1])
   (.seq
    (.seq
     (.reg [⟨some 4, none, [.t 1], .v (.faddr 0)⟩,
       ⟨some 5, none, [.t 4], .loadL 1 0 1 false⟩] [1, 5])
     (.block 0
      (.seq
       (.seq
        (.reg [⟨some 7, none, [.t 5, .c (.pv (.int .i64 1))], .v (.bin .eql)⟩,
          ⟨some 6, none, [.t 7], .v (.mv)⟩] [1, 5, 6])
        (.cond (.t 6)
         .skip
         (.reg [⟨some 8, none, [.t 5, .c (.pv (.int .i64 2))], .v (.bin .eql)⟩,
           ⟨some 6, none, [.t 8], .v (.mv)⟩] [1, 5, 6])))
       (.cond (.t 6)
        (.seq
         (.reg [⟨some 9, none, [.t 1], .v (.faddr 2)⟩,
           ⟨some 10, none, [.t 9], .loadL 1 2 1 false⟩,
           ⟨some 11, none, [.t 10, .c (.pv (.int .i64 0))], .v (.bin .geq)⟩,
           ⟨some 12, none, [.t 11], .v (.mv)⟩,
           ⟨some 13, some (12, true), [.t 1], .v (.faddr 2)⟩,
           ⟨some 14, some (12, true), [.t 13], .loadL 1 2 1 false⟩,
           ⟨some 15, some (12, true), [.t 14, .c (.pv (.int .i64 1000000))], .v (.bin .leq)⟩,
           ⟨some 16, none, [.t 12, .t 15, .c (.pv (.bool false))], .v (.pick)⟩,
           ⟨some 17, none, [.t 16], .v (.mv)⟩,
           ⟨some 18, some (17, true), [.t 1], .v (.faddr 1)⟩,
           ⟨some 19, some (17, true), [.t 18], .loadL 1 1 1 false⟩,
           ⟨some 20, some (17, true), [.t 19, .c (.pv (.str []))], .v (.bin .eql)⟩,
           ⟨some 21, none, [.t 17, .t 20, .c (.pv (.bool false))], .v (.pick)⟩,
           ⟨some 22, none, [.t 21], .v (.mv)⟩,
           ⟨some 23, some (22, true), [.t 1], .v (.faddr 3)⟩,
           ⟨some 24, some (22, true), [.t 23], .loadL 1 3 1 false⟩,
           ⟨some 25, some (22, true), [.t 24, .c (.pv (.int .i64 0))], .v (.bin .eql)⟩,
           ⟨some 26, none, [.t 22, .t 25, .c (.pv (.bool false))], .v (.pick)⟩,
           ⟨some 27, none, [.t 26], .v (.mv)⟩,
           ⟨some 28, some (27, true), [.t 1], .v (.faddr 4)⟩,
           ⟨some 29, some (27, true), [.t 28], .loadL 1 4 1 false⟩,
           ⟨some 30, some (27, true), [.t 29], .v (.len)⟩,
           ⟨some 31, some (27, true), [.t 30, .c (.pv (.int .i64 0))], .v (.bin .eql)⟩,
           ⟨some 32, none, [.t 27, .t 31, .c (.pv (.bool false))], .v (.pick)⟩,
           ⟨some 2, none, [.t 32], .v (.mv)⟩] [2])
         .ret)
        (.seq
         (.reg [⟨some 34, none, [.t 5, .c (.pv (.int .i64 3))], .v (.bin .eql)⟩,
           ⟨some 33, none, [.t 34], .v (.mv)⟩] [1, 5, 33])
         (.cond (.t 33)
          (.seq
           (.reg [⟨some 35, none, [.t 1], .v (.faddr 2)⟩,
             ⟨some 36, none, [.t 35], .loadL 1 2 1 false⟩,
             ⟨some 37, none, [.t 36, .c (.pv (.int .i64 0))], .v (.bin .geq)⟩,
             ⟨some 38, none, [.t 37], .v (.mv)⟩,
             ⟨some 39, some (38, true), [.t 1], .v (.faddr 2)⟩,
             ⟨some 40, some (38, true), [.t 39], .loadL 1 2 1 false⟩,
             ⟨some 41, some (38, true), [.t 40, .c (.pv (.int .i64 1000000))], .v (.bin .leq)⟩,
             ⟨some 42, none, [.t 38, .t 41, .c (.pv (.bool false))], .v (.pick)⟩,
             ⟨some 43, none, [.t 42], .v (.mv)⟩,
             ⟨some 44, some (43, true), [.t 1], .v (.faddr 3)⟩,
             ⟨some 45, some (43, true), [.t 44], .loadL 1 3 1 false⟩,
             ⟨some 46, some (43, true), [.t 45, .c (.pv (.int .i64 (-1)))], .v (.bin .geq)⟩,
             ⟨some 47, none, [.t 43, .t 46, .c (.pv (.bool false))], .v (.pick)⟩,
             ⟨some 48, none, [.t 47], .v (.mv)⟩,
             ⟨some 49, some (48, true), [.t 1], .v (.faddr 3)⟩,
             ⟨some 50, some (48, true), [.t 49], .loadL 1 3 1 false⟩,
             ⟨some 51, some (48, true), [.t 50, .c (.pv (.int .i64 1000000))], .v (.bin .leq)⟩,
             ⟨some 52, none, [.t 48, .t 51, .c (.pv (.bool false))], .v (.pick)⟩,
             ⟨some 53, none, [.t 52], .v (.mv)⟩,
             ⟨some 54, some (53, true), [.t 1], .v (.faddr 1)⟩,
             ⟨some 55, some (53, true), [.t 54], .loadL 1 1 1 false⟩,
             ⟨some 56, some (53, true), [.t 55, .c (.pv (.str []))], .v (.bin .eql)⟩,
             ⟨some 57, none, [.t 53, .t 56, .c (.pv (.bool false))], .v (.pick)⟩,
             ⟨some 58, none, [.t 57], .v (.mv)⟩,
             ⟨some 59, some (58, true), [.t 1], .v (.faddr 4)⟩,
             ⟨some 60, some (58, true), [.t 59], .loadL 1 4 1 false⟩,
             ⟨some 61, some (58, true), [.t 60], .v (.len)⟩,
             ⟨some 62, some (58, true), [.t 61, .c (.pv (.int .i64 0))], .v (.bin .eql)⟩,
             ⟨some 63, none, [.t 58, .t 62, .c (.pv (.bool false))], .v (.pick)⟩,
             ⟨some 2, none, [.t 63], .v (.mv)⟩] [2])
           .ret)
          (.seq
           (.reg [⟨some 65, none, [.t 5, .c (.pv (.int .i64 5))], .v (.bin .eql)⟩,
             ⟨some 64, none, [.t 65], .v (.mv)⟩] [1, 5, 64])
           (.cond (.t 64)
            (.seq
             (.reg [⟨some 66, none, [.t 1], .v (.faddr 2)⟩,
               ⟨some 67, none, [.t 66], .loadL 1 2 1 false⟩,
               ⟨some 68, none, [.t 67, .c (.pv (.int .i64 0))], .v (.bin .eql)⟩,
               ⟨some 69, none, [.t 68], .v (.mv)⟩,
               ⟨some 70, some (69, true), [.t 1], .v (.faddr 3)⟩,
               ⟨some 71, some (69, true), [.t 70], .loadL 1 3 1 false⟩,
               ⟨some 72, some (69, true), [.t 71, .c (.pv (.int .i64 0))], .v (.bin .eql)⟩,
               ⟨some 73, none, [.t 69, .t 72, .c (.pv (.bool false))], .v (.pick)⟩,
               ⟨some 74, none, [.t 73], .v (.mv)⟩,
               ⟨some 75, some (74, true), [.t 1], .v (.faddr 4)⟩,
               ⟨some 76, some (74, true), [.t 75], .loadL 1 4 1 false⟩,
               ⟨some 77, some (74, true), [.t 76], .v (.len)⟩,
               ⟨some 78, some (74, true), [.t 77, .c (.pv (.int .i64 0))], .v (.bin .eql)⟩,
               ⟨some 79, none, [.t 74, .t 78, .c (.pv (.bool false))], .v (.pick)⟩,
               ⟨some 80, none, [.t 79], .v (.mv)⟩,
               ⟨some 81, some (80, true), [.t 1], .v (.faddr 1)⟩,
               ⟨some 82, some (80, true), [.t 81], .loadL 1 1 1 false⟩,
               ⟨some 83, some (80, true), [.t 82], .callP 77⟩,
               ⟨some 84, none, [.t 80, .t 83, .c (.pv (.bool false))], .v (.pick)⟩,
               ⟨some 2, none, [.t 84], .v (.mv)⟩] [2])
             .ret)
            (.seq
             (.reg [⟨some 86, none, [.t 5, .c (.pv (.int .i64 4))], .v (.bin .eql)⟩,
               ⟨some 85, none, [.t 86], .v (.mv)⟩] [1, 85])
             (.cond (.t 85)
              (.seq
               (.seq
                (.reg [⟨some 87, none, [.t 1], .v (.faddr 2)⟩,
                  ⟨some 88, none, [.t 87], .loadL 1 2 1 false⟩,
                  ⟨some 89, none, [.t 88, .c (.pv (.int .i64 0))], .v (.bin .neq)⟩,
                  ⟨some 90, none, [.t 89], .v (.mv)⟩,
                  ⟨some 91, some (90, false), [.t 1], .v (.faddr 3)⟩,
                  ⟨some 92, some (90, false), [.t 91], .loadL 1 3 1 false⟩,
                  ⟨some 93, some (90, false), [.t 92, .c (.pv (.int .i64 0))], .v (.bin .neq)⟩,
                  ⟨some 94, none, [.t 90, .c (.pv (.bool true)), .t 93], .v (.pick)⟩] [1, 94])
                (.cond (.t 94)
                 (.seq
                  (.reg [⟨some 2, none, [.c (.pv (.bool false))], .v (.mv)⟩] [2])
                  .ret)
                 .skip))
               (.seq
                (.seq
                 (.reg [⟨some 3, none, [.c (.pv (.int .i64 0))], .v (.mv)⟩] [1, 3])
                 (.block 1
                  g30L0))
                (.seq
                 (.seq
                  (.reg [⟨some 109, none, [.t 1], .v (.faddr 1)⟩,
                    ⟨some 110, none, [.t 109], .loadL 1 1 1 false⟩] [1, 110])
                  (.block 3
                   (.seq
                    (.reg [⟨some 112, none, [.t 110, .c (.pv (.str [45, 62]))], .v (.bin .eql)⟩,
                      ⟨some 111, none, [.t 112], .v (.mv)⟩] [1, 110, 111])
                    (.cond (.t 111)
                     (.seq
                      (.reg [⟨some 113, none, [.t 1], .v (.faddr 4)⟩,
                        ⟨some 114, none, [.t 113], .loadL 1 4 1 false⟩,
                        ⟨some 115, none, [.t 114], .v (.len)⟩,
                        ⟨some 116, none, [.t 115, .c (.pv (.int .i64 2))], .v (.bin .eql)⟩,
                        ⟨some 2, none, [.t 116], .v (.mv)⟩] [2])
                      .ret)
                     (.seq
                      (.reg [⟨some 118, none, [.t 110, .c (.pv (.str [73, 110, 116]))], .v (.bin .eql)⟩,
                        ⟨some 117, none, [.t 118], .v (.mv)⟩] [1, 117])
                      (.cond (.t 117)
                       (.seq
                        (.reg [⟨some 119, none, [.t 1], .v (.faddr 4)⟩,
                          ⟨some 120, none, [.t 119], .loadL 1 4 1 false⟩,
                          ⟨some 121, none, [.t 120], .v (.len)⟩,
                          ⟨some 122, none, [.t 121, .c (.pv (.int .i64 0))], .v (.bin .eql)⟩,
                          ⟨some 2, none, [.t 122], .v (.mv)⟩] [2])
                        .ret)
                       .skip))))))
                 (.seq
                  (.reg [⟨some 123, none, [.t 1], .v (.faddr 1)⟩,
                    ⟨some 124, none, [.t 123], .loadL 1 1 1 false⟩,
                    ⟨some 125, none, [.t 124], .callP 78⟩,
                    ⟨some 126, none, [.t 125], .v (.mv)⟩,
                    ⟨some 127, some (126, true), [.t 1], .v (.faddr 4)⟩,
                    ⟨some 128, some (126, true), [.t 127], .loadL 1 4 1 false⟩,
                    ⟨some 129, some (126, true), [.t 128], .v (.len)⟩,
                    ⟨some 130, some (126, true), [.t 129, .c (.pv (.int .i64 4))], .v (.bin .leq)⟩,
                    ⟨some 131, none, [.t 126, .t 130, .c (.pv (.bool false))], .v (.pick)⟩,
                    ⟨some 2, none, [.t 131], .v (.mv)⟩] [2])
                  .ret))))
              .skip))))))))))
    (.seq
     (.reg [⟨some 2, none, [.c (.pv (.bool false))], .v (.mv)⟩] [2])
     .ret)))⟩

/- typedholes/typedholesmake.ValidType -/
def g31 : AFunc := ⟨1, 7, [.c 2 5 true],
  (.seq
   (.reg [⟨some 1, none, [.t 0], .box 1 5⟩,
     ⟨some 2, none, [], .alloc 2 [.int .i64 0, .str [], .int .i64 0, .int .i64 0, .lst []]⟩] [1, 2])
   (.seq
    (.seq
     (.reg [⟨some 3, none, [.t 1], .loadL 1 0 5 true⟩,
       ⟨some 4, none, [.t 3], .callP 30⟩] [1, 2, 4])
     (.cond (.t 4)
      (.seq
       (.reg [⟨some 5, none, [.t 1], .loadL 1 0 5 true⟩,
         ⟨none, none, [.t 2, .t 5], .storeL 2 0 5⟩] [2])
       .ret)
      .skip))
    (.seq
     (.reg [⟨some 6, none, [], .callP 34⟩,
       ⟨none, none, [.t 2, .t 6], .storeL 2 0 5⟩] [2])
     .ret)))⟩

/- typedholes/typedholesmake.Datas -/
def g32B0 : ACode :=
  (.seq
   (.seq
    (.reg [⟨some 21, none, [.t 5], .v (.mv)⟩,
      ⟨some 22, none, [.t 3], .v (.mv)⟩,
      ⟨some 23, none, [.t 22], .v (.len)⟩,
      ⟨some 24, none, [.t 21, .t 23], .v (.bin .lss)⟩] [0, 3, 4, 5, 24])
    (.cond (.t 24)
     .skip
     (.exit 0)))
   (.seq
    (.block 1
     (.seq
      (.reg [⟨some 27, none, [.t 5], .v (.mv)⟩,
        ⟨some 28, none, [.t 27, .c (.pv (.int .i64 1))], .v (.bin .neq)⟩,
        ⟨some 29, none, [.t 28], .v (.mv)⟩,
        ⟨some 30, some (29, true), [.t 0], .v (.mv)⟩,
        ⟨some 31, some (29, true), [.t 5], .v (.mv)⟩,
        ⟨some 32, some (29, true), [.t 31], .v (.conv .u64)⟩,
        ⟨some 33, some (29, true), [.t 30, .t 32], .v (.bin .shr)⟩,
        ⟨some 34, some (29, true), [.t 33, .c (.pv (.int .i64 1))], .v (.bin .and)⟩,
        ⟨some 35, some (29, true), [.t 34, .c (.pv (.int .i64 1))], .v (.bin .eql)⟩,
        ⟨some 36, none, [.t 29, .t 35, .c (.pv (.bool false))], .v (.pick)⟩] [0, 3, 4, 5, 36])
      (.cond (.t 36)
       (.reg [⟨some 37, none, [.t 4], .v (.mv)⟩,
         ⟨some 38, none, [.t 3], .v (.mv)⟩,
         ⟨some 39, none, [.t 5], .v (.mv)⟩,
         ⟨some 40, none, [.t 38, .t 39], .v (.iaddr 4)⟩,
         ⟨some 41, none, [.t 40], .v (.loadE 4 true)⟩,
         ⟨some 42, none, [.t 41], .v (.bslice 4)⟩,
         ⟨some 43, none, [.t 37, .t 42], .append 4 72⟩,
         ⟨some 4, none, [.t 43], .v (.mv)⟩] [0, 3, 4, 5])
       .skip)))
    (.reg [⟨some 25, none, [.t 5], .v (.mv)⟩,
      ⟨some 26, none, [.t 25, .c (.pv (.int .i64 1))], .v (.bin .add)⟩,
      ⟨some 5, none, [.t 26], .v (.mv)⟩] [0, 3, 4, 5])))
def g32L0 : ACode := .loop [0, 3, 4, 5] g32B0
theorem g32L0_eq {AP : Nat → Option AFunc} {st : St} : cl AP g32L0 st = after (cl AP g32L0) (cl AP g32B0 (norm (restrict [0, 3, 4, 5] st))) := cl_loop
def g32 : AFunc := ⟨1, 45, [.t 2],
  (.seq
   (.reg [⟨some 2, none, [.c (.clp [])], .v (.mv)⟩] [0])
   (.seq
    (.reg [⟨some 6, none, [], .callP 79⟩,
      ⟨some 3, none, [.t 6], .v (.mv)⟩] [0, 3])
    (.seq
     (.reg [⟨some 4, none, [.c (.clp [])], .v (.mv)⟩] [0, 3, 4])
     (.seq
      (.seq
       (.reg [⟨some 7, none, [.t 0], .v (.mv)⟩,
         ⟨some 8, none, [.t 7, .c (.pv (.int .i64 2))], .v (.bin .and)⟩,
         ⟨some 9, none, [.t 8, .c (.pv (.int .i64 0))], .v (.bin .neq)⟩,
         ⟨some 10, none, [.t 9], .v (.mv)⟩,
         ⟨some 11, some (10, false), [.t 0], .v (.mv)⟩,
         ⟨some 12, some (10, false), [.t 11, .c (.pv (.int .i64 64))], .v (.bin .and)⟩,
         ⟨some 13, some (10, false), [.t 12, .c (.pv (.int .i64 0))], .v (.bin .neq)⟩,
         ⟨some 14, none, [.t 10, .c (.pv (.bool true)), .t 13], .v (.pick)⟩] [0, 3, 4, 14])
       (.cond (.t 14)
        (.reg [⟨some 15, none, [.t 4], .v (.mv)⟩,
          ⟨some 16, none, [.t 3], .v (.mv)⟩,
          ⟨some 17, none, [.t 16, .c (.pv (.int .i64 1))], .v (.iaddr 4)⟩,
          ⟨some 18, none, [.t 17], .v (.loadE 4 true)⟩,
          ⟨some 19, none, [.t 18], .v (.bslice 4)⟩,
          ⟨some 20, none, [.t 15, .t 19], .append 4 72⟩,
          ⟨some 4, none, [.t 20], .v (.mv)⟩] [0, 3, 4])
        .skip))
      (.seq
       (.seq
        (.reg [⟨some 5, none, [.c (.pv (.int .i64 0))], .v (.mv)⟩] [0, 3, 4, 5])
        (.block 0
         g32L0))
       (.seq
        (.reg [⟨some 44, none, [.t 4], .v (.mv)⟩,
          ⟨some 2, none, [.t 44], .v (.mv)⟩] [2])
        .ret))))))⟩

/- typedholes/types.Equal -/
def g33 : AFunc := ⟨2, 9, [.t 4],
  (.seq
   (.reg [⟨some 2, none, [.t 0], .box 2 5⟩,
     ⟨some 3, none, [.t 1], .box 3 5⟩,
     ⟨some 4, none, [.c (.pv (.bool false))], .v (.mv)⟩] [2, 3])
   (.seq
    (.reg [⟨some 5, none, [.t 2], .loadL 2 0 5 true⟩,
      ⟨some 6, none, [.t 3], .loadL 3 0 5 true⟩,
      ⟨some 7, none, [.t 5, .t 6], .callP 35⟩,
      ⟨some 8, none, [.t 7, .c (.pv (.int .i64 0))], .v (.bin .eql)⟩,
      ⟨some 4, none, [.t 8], .v (.mv)⟩] [4])
    .ret))⟩

/- typedholes/typedholesref3.Int -/
def g34 : AFunc := ⟨0, 2, [.c 0 5 true],
  (.seq
   (.reg [⟨some 0, none, [], .alloc 0 [.int .i64 0, .str [], .int .i64 0, .int .i64 0, .lst []]⟩] [0])
   (.seq
    (.reg [⟨some 1, none, [.c (.pv (.str [73, 110, 116])), .c (.clp [])], .callP 62⟩,
      ⟨none, none, [.t 0, .t 1], .storeL 0 0 5⟩] [0])
    .ret))⟩

/- typedholes/types.Compare -/
def g35 : AFunc := ⟨2, 43, [.t 4],
  (.seq
   (.reg [⟨some 2, none, [.t 0], .box 2 5⟩,
     ⟨some 3, none, [.t 1], .box 3 5⟩,
     ⟨some 4, none, [.c (.pv (.int .i64 0))], .v (.mv)⟩] [2, 3])
   (.seq
    (.reg [⟨some 6, none, [.t 2], .v (.faddr 0)⟩,
      ⟨some 7, none, [.t 6], .loadL 2 0 1 false⟩,
      ⟨some 8, none, [.t 3], .v (.faddr 0)⟩,
      ⟨some 9, none, [.t 8], .loadL 3 0 1 false⟩,
      ⟨some 10, none, [.t 7, .t 9], .callP 81⟩,
      ⟨some 11, none, [.t 2], .v (.faddr 1)⟩,
      ⟨some 12, none, [.t 11], .loadL 2 1 1 false⟩,
      ⟨some 13, none, [.t 3], .v (.faddr 1)⟩,
      ⟨some 14, none, [.t 13], .loadL 3 1 1 false⟩,
      ⟨some 15, none, [.t 12, .t 14], .callP 82⟩,
      ⟨some 16, none, [.t 2], .v (.faddr 2)⟩,
      ⟨some 17, none, [.t 16], .loadL 2 2 1 false⟩,
      ⟨some 18, none, [.t 3], .v (.faddr 2)⟩,
      ⟨some 19, none, [.t 18], .loadL 3 2 1 false⟩,
      ⟨some 20, none, [.t 17, .t 19], .callP 81⟩,
      ⟨some 21, none, [.t 2], .v (.faddr 3)⟩,
      ⟨some 22, none, [.t 21], .loadL 2 3 1 false⟩,
      ⟨some 23, none, [.t 3], .v (.faddr 3)⟩,
      ⟨some 24, none, [.t 23], .loadL 3 3 1 false⟩,
      ⟨some 25, none, [.t 22, .t 24], .callP 81⟩,
      ⟨some 26, none, [.t 2], .v (.faddr 4)⟩,
      ⟨some 27, none, [.t 26], .loadL 2 4 1 false⟩,
      ⟨some 28, none, [.t 27], .v (.len)⟩,
      ⟨some 29, none, [.t 3], .v (.faddr 4)⟩,
      ⟨some 30, none, [.t 29], .loadL 3 4 1 false⟩,
      ⟨some 31, none, [.t 30], .v (.len)⟩,
      ⟨some 32, none, [.t 28, .t 31], .callP 81⟩,
      ⟨some 33, none, [.t 10, .t 15, .t 20, .t 25, .t 32], .v (.bslice 1)⟩,
      ⟨some 34, none, [.t 33], .callP 80⟩,
      ⟨some 5, none, [.t 34], .v (.mv)⟩] [2, 3, 5])
    (.seq
     (.seq
      (.reg [⟨some 35, none, [.t 5], .v (.mv)⟩,
        ⟨some 36, none, [.t 35, .c (.pv (.int .i64 0))], .v (.bin .neq)⟩] [2, 3, 5, 36])
      (.cond (.t 36)
       (.seq
        (.reg [⟨some 37, none, [.t 5], .v (.mv)⟩,
          ⟨some 4, none, [.t 37], .v (.mv)⟩] [4])
        .ret)
       .skip))
     (.seq
      (.reg [⟨some 38, none, [.t 2], .v (.faddr 4)⟩,
        ⟨some 39, none, [.t 38], .loadL 2 4 1 false⟩,
        ⟨some 40, none, [.t 3], .v (.faddr 4)⟩,
        ⟨some 41, none, [.t 40], .loadL 3 4 1 false⟩,
        ⟨some 42, none, [.t 39, .t 41, .c (.fn 35 [])], .callI 83 []⟩,
        ⟨some 4, none, [.t 42], .v (.mv)⟩] [4])
      .ret))))⟩

/- typedholes/typedholesref3.Compare -/
def g36B0 : ACode :=
  (.seq
   (.reg [⟨some 46, none, [.t 45, .t 44], .v (.bin .lss)⟩] [2, 3, 43, 44, 45, 46])
   (.seq
    (.cond (.t 46)
     .skip
     (.exit 0))
    (.seq
     (.block 1
      (.seq
       (.reg [⟨some 47, none, [.t 43, .t 45], .v (.iaddr 1)⟩,
         ⟨some 48, none, [.t 47], .v (.loadE 1 false)⟩,
         ⟨some 7, none, [.t 48], .v (.mv)⟩] [2, 3, 7, 43, 44, 45])
       (.seq
        (.reg [⟨some 49, none, [.t 7], .v (.mv)⟩,
          ⟨some 50, none, [.t 49, .c (.pv (.int .i64 0))], .v (.bin .neq)⟩] [2, 3, 7, 43, 44, 45, 50])
        (.cond (.t 50)
         (.seq
          (.reg [⟨some 51, none, [.t 7], .v (.mv)⟩,
            ⟨some 4, none, [.t 51], .v (.mv)⟩] [4])
          .ret)
         .skip))))
     (.reg [⟨some 52, none, [.t 45, .c (.pv (.int .i64 1))], .v (.bin .add)⟩,
       ⟨some 45, none, [.t 52], .v (.mv)⟩] [2, 3, 43, 44, 45]))))
def g36L0 : ACode := .loop [2, 3, 43, 44, 45] g36B0
theorem g36L0_eq {AP : Nat → Option AFunc} {st : St} : cl AP g36L0 st = after (cl AP g36L0) (cl AP g36B0 (norm (restrict [2, 3, 43, 44, 45] st))) := cl_loop
def g36B1 : ACode :=
  (.seq
   (.seq
    (.reg [⟨some 53, none, [.t 8], .v (.mv)⟩,
      ⟨some 54, none, [.t 2], .v (.faddr 4)⟩,
      ⟨some 55, none, [.t 54], .loadL 2 4 1 false⟩,
      ⟨some 56, none, [.t 55], .v (.len)⟩,
      ⟨some 57, none, [.t 53, .t 56], .v (.bin .lss)⟩] [2, 3, 8, 57])
    (.cond (.t 57)
     .skip
     (.exit 2)))
   (.seq
    (.block 3
     (.seq
      (.reg [⟨some 60, none, [.t 2], .v (.faddr 4)⟩,
        ⟨some 61, none, [.t 60], .loadL 2 4 1 false⟩,
        ⟨some 62, none, [.t 8], .v (.mv)⟩,
        ⟨some 63, none, [.t 61, .t 62], .v (.iaddr 5)⟩,
        ⟨some 64, none, [.t 63], .v (.loadE 5 true)⟩,
        ⟨some 65, none, [.t 3], .v (.faddr 4)⟩,
        ⟨some 66, none, [.t 65], .loadL 3 4 1 false⟩,
        ⟨some 67, none, [.t 8], .v (.mv)⟩,
        ⟨some 68, none, [.t 66, .t 67], .v (.iaddr 5)⟩,
        ⟨some 69, none, [.t 68], .v (.loadE 5 true)⟩,
        ⟨some 70, none, [.t 64, .t 69], .callP 36⟩,
        ⟨some 9, none, [.t 70], .v (.mv)⟩] [2, 3, 8, 9])
      (.seq
       (.reg [⟨some 71, none, [.t 9], .v (.mv)⟩,
         ⟨some 72, none, [.t 71, .c (.pv (.int .i64 0))], .v (.bin .neq)⟩] [2, 3, 8, 9, 72])
       (.cond (.t 72)
        (.seq
         (.reg [⟨some 73, none, [.t 9], .v (.mv)⟩,
           ⟨some 4, none, [.t 73], .v (.mv)⟩] [4])
         .ret)
        .skip))))
    (.reg [⟨some 58, none, [.t 8], .v (.mv)⟩,
      ⟨some 59, none, [.t 58, .c (.pv (.int .i64 1))], .v (.bin .add)⟩,
      ⟨some 8, none, [.t 59], .v (.mv)⟩] [2, 3, 8])))
def g36L1 : ACode := .loop [2, 3, 8] g36B1
theorem g36L1_eq {AP : Nat → Option AFunc} {st : St} : cl AP g36L1 st = after (cl AP g36L1) (cl AP g36B1 (norm (restrict [2, 3, 8] st))) := cl_loop
def g36 : AFunc := ⟨2, 74, [.t 4],
  (.seq
   (.reg [⟨some 2, none, [.t 0], .box 2 5⟩,
     ⟨some 3, none, [.t 1], .box 3 5⟩,
     ⟨some 4, none, [.c (.pv (.int .i64 0))], .v (.mv)⟩] [2, 3])
   (.seq
    (.reg [⟨some 5, none, [.c (.pv (.int .i64 0))], .v (.mv)⟩] [2, 3, 5])
    (.seq
     (.seq
      (.reg [⟨some 10, none, [.t 2], .v (.faddr 1)⟩,
        ⟨some 11, none, [.t 10], .loadL 2 1 1 false⟩,
        ⟨some 12, none, [.t 3], .v (.faddr 1)⟩,
        ⟨some 13, none, [.t 12], .loadL 3 1 1 false⟩,
        ⟨some 14, none, [.t 11, .t 13], .v (.bin .lss)⟩] [2, 3, 5, 14])
      (.cond (.t 14)
       (.reg [⟨some 5, none, [.c (.pv (.int .i64 (-1)))], .v (.mv)⟩] [2, 3, 5])
       (.seq
        (.reg [⟨some 15, none, [.t 2], .v (.faddr 1)⟩,
          ⟨some 16, none, [.t 15], .loadL 2 1 1 false⟩,
          ⟨some 17, none, [.t 3], .v (.faddr 1)⟩,
          ⟨some 18, none, [.t 17], .loadL 3 1 1 false⟩,
          ⟨some 19, none, [.t 16, .t 18], .v (.bin .gtr)⟩] [2, 3, 5, 19])
        (.cond (.t 19)
         (.reg [⟨some 5, none, [.c (.pv (.int .i64 1))], .v (.mv)⟩] [2, 3, 5])
         .skip))))
     (.seq
      (.seq
       (.reg [⟨some 20, none, [.t 2], .v (.faddr 0)⟩,
         ⟨some 21, none, [.t 20], .loadL 2 0 1 false⟩,
         ⟨some 22, none, [.t 3], .v (.faddr 0)⟩,
         ⟨some 23, none, [.t 22], .loadL 3 0 1 false⟩,
         ⟨some 24, none, [.t 21, .t 23], .callP 84⟩,
         ⟨some 25, none, [.t 5], .v (.mv)⟩,
         ⟨some 26, none, [.t 2], .v (.faddr 2)⟩,
         ⟨some 27, none, [.t 26], .loadL 2 2 1 false⟩,
         ⟨some 28, none, [.t 3], .v (.faddr 2)⟩,
         ⟨some 29, none, [.t 28], .loadL 3 2 1 false⟩,
         ⟨some 30, none, [.t 27, .t 29], .callP 84⟩,
         ⟨some 31, none, [.t 2], .v (.faddr 3)⟩,
         ⟨some 32, none, [.t 31], .loadL 2 3 1 false⟩,
         ⟨some 33, none, [.t 3], .v (.faddr 3)⟩,
         ⟨some 34, none, [.t 33], .loadL 3 3 1 false⟩,
         ⟨some 35, none, [.t 32, .t 34], .callP 84⟩,
         ⟨some 36, none, [.t 2], .v (.faddr 4)⟩,
         ⟨some 37, none, [.t 36], .loadL 2 4 1 false⟩,
         ⟨some 38, none, [.t 37], .v (.len)⟩,
         ⟨some 39, none, [.t 3], .v (.faddr 4)⟩,
         ⟨some 40, none, [.t 39], .loadL 3 4 1 false⟩,
         ⟨some 41, none, [.t 40], .v (.len)⟩,
         ⟨some 42, none, [.t 38, .t 41], .callP 84⟩,
         ⟨some 43, none, [.t 24, .t 25, .t 30, .t 35, .t 42], .v (.bslice 1)⟩,
         ⟨some 44, none, [.t 43], .v (.len)⟩,
         ⟨some 45, none, [.c (.pv (.int .i64 0))], .v (.mv)⟩] [2, 3, 43, 44, 45])
       (.block 0
        g36L0))
      (.seq
       (.seq
        (.reg [⟨some 8, none, [.c (.pv (.int .i64 0))], .v (.mv)⟩] [2, 3, 8])
        (.block 2
         g36L1))
       (.seq
        (.reg [⟨some 4, none, [.c (.pv (.int .i64 0))], .v (.mv)⟩] [4])
        .ret))))))⟩

/- (*typedholes/typedholesmake.Tape).Subst -/
def g37B0 : ACode :=
  (.seq
   (.seq
    (.reg [⟨some 9, none, [.t 8], .v (.mv)⟩,
      ⟨some 10, none, [.t 2], .v (.mv)⟩,
      ⟨some 11, none, [.t 9, .t 10], .v (.bin .lss)⟩] [0, 1, 2, 7, 8, 11])
    (.cond (.t 11)
     .skip
     (.exit 0)))
   (.seq
    (.block 1
     (.seq
      (.reg [⟨some 14, none, [.t 0], .v (.mv)⟩,
        ⟨some 15, none, [.t 14, .c (.pv (.int .i64 3))], .callI 68 []⟩,
        ⟨some 16, none, [.t 15, .c (.pv (.int .i64 0))], .v (.bin .gtr)⟩] [0, 1, 2, 7, 8, 16])
      (.cond (.t 16)
       (.reg [⟨some 17, none, [.t 7], .v (.mv)⟩,
         ⟨some 18, none, [.t 8], .v (.mv)⟩,
         ⟨some 19, none, [.t 0], .v (.mv)⟩,
         ⟨some 20, none, [.t 1], .v (.mv)⟩,
         ⟨some 21, none, [.t 2], .v (.mv)⟩,
         ⟨some 22, none, [.t 21, .c (.pv (.int .i64 1))], .v (.bin .add)⟩,
         ⟨some 23, none, [.t 22], .callI 70 []⟩,
         ⟨some 24, none, [.c (.pv (.int .i64 (-1))), .c (.pv (.int .i64 0))], .callP 71⟩,
         ⟨some 25, none, [.t 24], .v (.bslice 5)⟩,
         ⟨some 26, none, [.t 23, .t 25], .append 5 64⟩,
         ⟨some 27, none, [.t 19, .t 20, .t 26, .c (.pv (.int .i64 1))], .callI 27 []⟩,
         ⟨some 28, none, [.t 18, .t 27], .v (.build [.int .i64 0, .int .i64 0, .str [], .int .i64 0, .int .i64 0, .lst []] [(0, 1), (1, 5)])⟩,
         ⟨some 29, none, [.t 28], .v (.bslice 6)⟩,
         ⟨some 30, none, [.t 17, .t 29], .append 6 72⟩,
         ⟨some 7, none, [.t 30], .v (.mv)⟩] [0, 1, 2, 7, 8])
       .skip)))
    (.reg [⟨some 12, none, [.t 8], .v (.mv)⟩,
      ⟨some 13, none, [.t 12, .c (.pv (.int .i64 1))], .v (.bin .add)⟩,
      ⟨some 8, none, [.t 13], .v (.mv)⟩] [0, 1, 2, 7, 8])))
def g37L0 : ACode := .loop [0, 1, 2, 7, 8] g37B0
theorem g37L0_eq {AP : Nat → Option AFunc} {st : St} : cl AP g37L0 st = after (cl AP g37L0) (cl AP g37B0 (norm (restrict [0, 1, 2, 7, 8] st))) := cl_loop
def g37 : AFunc := ⟨3, 32, [.t 6],
  (.seq
   (.reg [⟨some 6, none, [.c (.clp [])], .v (.mv)⟩] [0, 1, 2])
   (.seq
    (.reg [⟨some 7, none, [.c (.clp [])], .v (.mv)⟩] [0, 1, 2, 7])
    (.seq
     (.seq
      (.reg [⟨some 8, none, [.c (.pv (.int .i64 0))], .v (.mv)⟩] [0, 1, 2, 7, 8])
      (.block 0
       g37L0))
     (.seq
      (.reg [⟨some 31, none, [.t 7], .v (.mv)⟩,
        ⟨some 6, none, [.t 31], .v (.mv)⟩] [6])
      .ret))))⟩

/- typedholes/subst.Equal -/
def g38 : AFunc := ⟨3, 11, [.t 6],
  (.seq
   (.reg [⟨some 3, none, [.t 0], .boxS 1⟩,
     ⟨some 4, none, [.t 1], .boxS 1⟩,
     ⟨some 6, none, [.c (.pv (.bool false))], .v (.mv)⟩] [2, 3, 4])
   (.seq
    (.reg [⟨some 7, none, [.t 2], .v (.mv)⟩,
      ⟨some 8, none, [.t 3, .t 4], .v (.mkfn 86)⟩,
      ⟨some 9, none, [.t 7, .t 8], .callI 85 []⟩,
      ⟨some 10, none, [.t 9], .v (.un .not)⟩,
      ⟨some 6, none, [.t 10], .v (.mv)⟩] [6])
    .ret))⟩

/- typedholes/typedholesref13.Equal -/
def g39B0 : ACode :=
  (.seq
   (.seq
    (.reg [⟨some 8, none, [.t 7], .v (.mv)⟩,
      ⟨some 9, none, [.t 2], .v (.mv)⟩,
      ⟨some 10, none, [.t 9], .v (.len)⟩,
      ⟨some 11, none, [.t 8, .t 10], .v (.bin .lss)⟩] [0, 1, 2, 7, 11])
    (.cond (.t 11)
     .skip
     (.exit 0)))
   (.seq
    (.block 1
     (.seq
      (.reg [⟨some 14, none, [.t 0], .v (.mv)⟩,
        ⟨some 15, none, [.t 2], .v (.mv)⟩,
        ⟨some 16, none, [.t 7], .v (.mv)⟩,
        ⟨some 17, none, [.t 15, .t 16], .v (.iaddr 1)⟩,
        ⟨some 18, none, [.t 17], .v (.loadE 1 false)⟩,
        ⟨some 19, none, [.t 18], .callP 63⟩,
        ⟨some 20, none, [.t 14, .t 19], .callP 22⟩,
        ⟨some 21, none, [.t 1], .v (.mv)⟩,
        ⟨some 22, none, [.t 2], .v (.mv)⟩,
        ⟨some 23, none, [.t 7], .v (.mv)⟩,
        ⟨some 24, none, [.t 22, .t 23], .v (.iaddr 1)⟩,
        ⟨some 25, none, [.t 24], .v (.loadE 1 false)⟩,
        ⟨some 26, none, [.t 25], .callP 63⟩,
        ⟨some 27, none, [.t 21, .t 26], .callP 22⟩,
        ⟨some 28, none, [.t 20, .t 27], .callP 20⟩,
        ⟨some 29, none, [.t 28], .v (.un .not)⟩] [0, 1, 2, 7, 29])
      (.cond (.t 29)
       (.seq
        (.reg [⟨some 6, none, [.c (.pv (.bool false))], .v (.mv)⟩] [6])
        .ret)
       .skip)))
    (.reg [⟨some 12, none, [.t 7], .v (.mv)⟩,
      ⟨some 13, none, [.t 12, .c (.pv (.int .i64 1))], .v (.bin .add)⟩,
      ⟨some 7, none, [.t 13], .v (.mv)⟩] [0, 1, 2, 7])))
def g39L0 : ACode := .loop [0, 1, 2, 7] g39B0
theorem g39L0_eq {AP : Nat → Option AFunc} {st : St} : cl AP g39L0 st = after (cl AP g39L0) (cl AP g39B0 (norm (restrict [0, 1, 2, 7] st))) := cl_loop
def g39 : AFunc := ⟨3, 30, [.t 6],
  (.seq
   (.reg [⟨some 6, none, [.c (.pv (.bool false))], .v (.mv)⟩] [0, 1, 2])
   (.seq
    (.seq
     (.reg [⟨some 7, none, [.c (.pv (.int .i64 0))], .v (.mv)⟩] [0, 1, 2, 7])
     (.block 0
      g39L0))
    (.seq
     (.reg [⟨some 6, none, [.c (.pv (.bool true))], .v (.mv)⟩] [6])
     .ret)))⟩

/- typedholes/typedholesmake.SmallType -/
def g40 : AFunc := ⟨2, 10, [.t 4],
  (.seq
   (.reg [⟨some 2, none, [.t 0], .box 2 5⟩,
     ⟨some 4, none, [.c (.pv (.bool false))], .v (.mv)⟩] [1, 2])
   (.seq
    (.reg [⟨some 5, none, [.t 2], .loadL 2 0 5 true⟩,
      ⟨some 6, none, [.t 1], .v (.mv)⟩,
      ⟨some 7, none, [.t 6, .c (.pv (.int .i64 1))], .v (.bin .add)⟩,
      ⟨some 8, none, [.t 5, .t 7], .callP 88⟩,
      ⟨some 9, none, [.t 8, .c (.pv (.int .i64 0))], .v (.bin .gtr)⟩,
      ⟨some 4, none, [.t 9], .v (.mv)⟩] [4])
    .ret))⟩

/- typedholes/subst.Valid -/
def g41B0 : ACode :=
  (.seq
   (.reg [⟨some 10, none, [.t 9, .t 8], .v (.bin .lss)⟩] [0, 7, 8, 9, 10])
   (.seq
    (.cond (.t 10)
     .skip
     (.exit 0))
    (.seq
     (.block 1
      (.seq
       (.reg [⟨some 11, none, [.t 9], .v (.mv)⟩,
         ⟨some 12, none, [.t 7, .t 9], .v (.iaddr 6)⟩,
         ⟨some 13, none, [.t 12], .v (.loadE 6 true)⟩,
         ⟨some 4, none, [], .alloc 4 [.int .i64 0, .int .i64 0, .str [], .int .i64 0, .int .i64 0, .lst []]⟩,
         ⟨some 3, none, [.t 11], .v (.mv)⟩,
         ⟨none, none, [.t 4, .t 13], .storeL 4 0 6⟩] [0, 3, 4, 7, 8, 9])
       (.seq
        (.reg [⟨some 15, none, [.t 0], .v (.mv)⟩,
          ⟨some 16, none, [.t 3], .v (.mv)⟩,
          ⟨some 17, none, [.t 15, .t 16], .v (.slice false 6 false true false)⟩,
          ⟨some 18, none, [.t 4], .v (.faddr 0)⟩,
          ⟨some 19, none, [.t 18], .loadL 4 0 1 false⟩,
          ⟨some 20, none, [.t 17, .t 19], .callP 64⟩,
          ⟨some 14, none, [.t 20], .v (.mv)⟩,
          ⟨some 21, none, [.t 14], .v (.ext 0)⟩,
          ⟨some 22, none, [.t 14], .v (.ext 1)⟩,
          ⟨some 5, none, [], .alloc 5 [.int .i64 0, .str [], .int .i64 0, .int .i64 0, .lst []]⟩,
          ⟨none, none, [.t 5, .t 21], .storeL 5 0 5⟩,
          ⟨some 6, none, [.t 22], .v (.mv)⟩] [0, 4, 6, 7, 8, 9])
        (.seq
         (.reg [⟨some 23, none, [.t 6], .v (.mv)⟩,
           ⟨some 24, none, [.t 23], .v (.mv)⟩,
           ⟨some 25, some (24, false), [.t 4], .v (.faddr 0)⟩,
           ⟨some 26, some (24, false), [.t 25], .loadL 4 0 1 false⟩,
           ⟨some 27, some (24, false), [.t 26], .callP 87⟩,
           ⟨some 28, some (24, false), [.t 27], .callP 29⟩,
           ⟨some 29, some (24, false), [.t 28], .v (.un .not)⟩,
           ⟨some 30, none, [.t 24, .c (.pv (.bool true)), .t 29], .v (.pick)⟩,
           ⟨some 31, none, [.t 30], .v (.mv)⟩,
           ⟨some 32, some (31, false), [.t 4], .v (.faddr 1)⟩,
           ⟨some 33, some (31, false), [.t 32], .loadL 4 1 5 true⟩,
           ⟨some 34, some (31, false), [.t 33], .callP 29⟩,
           ⟨some 35, some (31, false), [.t 34], .v (.un .not)⟩,
           ⟨some 36, none, [.t 31, .c (.pv (.bool true)), .t 35], .v (.pick)⟩] [0, 7, 8, 9, 36])
         (.cond (.t 36)
          (.seq
           (.reg [⟨some 2, none, [.c (.pv (.bool false))], .v (.mv)⟩] [2])
           .ret)
          .skip)))))
     (.reg [⟨some 37, none, [.t 9, .c (.pv (.int .i64 1))], .v (.bin .add)⟩,
       ⟨some 9, none, [.t 37], .v (.mv)⟩] [0, 7, 8, 9]))))
def g41L0 : ACode := .loop [0, 7, 8, 9] g41B0
theorem g41L0_eq {AP : Nat → Option AFunc} {st : St} : cl AP g41L0 st = after (cl AP g41L0) (cl AP g41B0 (norm (restrict [0, 7, 8, 9] st))) := cl_loop
def g41 : AFunc := ⟨1, 38, [.t 2],
  (.seq
   (.reg [⟨some 2, none, [.c (.pv (.bool false))], .v (.mv)⟩] [0])
   (.seq
    (.seq
     (.reg [⟨some 7, none, [.t 0], .v (.mv)⟩,
       ⟨some 8, none, [.t 7], .v (.len)⟩,
       ⟨some 9, none, [.c (.pv (.int .i64 0))], .v (.mv)⟩] [0, 7, 8, 9])
     (.block 0
      g41L0))
    (.seq
     (.reg [⟨some 2, none, [.c (.pv (.bool true))], .v (.mv)⟩] [2])
     .ret)))⟩

/- typedholes/typedholesref13.Valid -/
def g42B0 : ACode :=
  (.seq
   (.seq
    (.reg [⟨some 4, none, [.t 3], .v (.mv)⟩,
      ⟨some 5, none, [.t 0], .v (.mv)⟩,
      ⟨some 6, none, [.t 5], .v (.len)⟩,
      ⟨some 7, none, [.t 4, .t 6], .v (.bin .lss)⟩] [0, 3, 7])
    (.cond (.t 7)
     .skip
     (.exit 0)))
   (.seq
    (.block 1
     (.seq
      (.reg [⟨some 10, none, [.t 0], .v (.mv)⟩,
        ⟨some 11, none, [.t 3], .v (.mv)⟩,
        ⟨some 12, none, [.t 10, .t 11], .v (.slice false 6 false true false)⟩,
        ⟨some 13, none, [.t 0], .v (.mv)⟩,
        ⟨some 14, none, [.t 3], .v (.mv)⟩,
        ⟨some 15, none, [.t 13, .t 14], .v (.iaddr 6)⟩,
        ⟨some 16, none, [.t 15], .v (.faddr 0)⟩,
        ⟨some 17, none, [.t 16], .v (.loadE 1 false)⟩,
        ⟨some 18, none, [.t 12, .t 17], .callP 65⟩,
        ⟨some 19, none, [.t 18], .v (.mv)⟩,
        ⟨some 20, some (19, false), [.t 0], .v (.mv)⟩,
        ⟨some 21, some (19, false), [.t 3], .v (.mv)⟩,
        ⟨some 22, some (19, false), [.t 20, .t 21], .v (.iaddr 6)⟩,
        ⟨some 23, some (19, false), [.t 22], .v (.faddr 0)⟩,
        ⟨some 24, some (19, false), [.t 23], .v (.loadE 1 false)⟩,
        ⟨some 25, some (19, false), [.t 24], .callP 63⟩,
        ⟨some 26, some (19, false), [.t 25], .callP 30⟩,
        ⟨some 27, some (19, false), [.t 26], .v (.un .not)⟩,
        ⟨some 28, none, [.t 19, .c (.pv (.bool true)), .t 27], .v (.pick)⟩,
        ⟨some 29, none, [.t 28], .v (.mv)⟩,
        ⟨some 30, some (29, false), [.t 0], .v (.mv)⟩,
        ⟨some 31, some (29, false), [.t 3], .v (.mv)⟩,
        ⟨some 32, some (29, false), [.t 30, .t 31], .v (.iaddr 6)⟩,
        ⟨some 33, some (29, false), [.t 32], .v (.faddr 1)⟩,
        ⟨some 34, some (29, false), [.t 33], .v (.loadE 5 true)⟩,
        ⟨some 35, some (29, false), [.t 34], .callP 30⟩,
        ⟨some 36, some (29, false), [.t 35], .v (.un .not)⟩,
        ⟨some 37, none, [.t 29, .c (.pv (.bool true)), .t 36], .v (.pick)⟩] [0, 3, 37])
      (.cond (.t 37)
       (.seq
        (.reg [⟨some 2, none, [.c (.pv (.bool false))], .v (.mv)⟩] [2])
        .ret)
       .skip)))
    (.reg [⟨some 8, none, [.t 3], .v (.mv)⟩,
      ⟨some 9, none, [.t 8, .c (.pv (.int .i64 1))], .v (.bin .add)⟩,
      ⟨some 3, none, [.t 9], .v (.mv)⟩] [0, 3])))
def g42L0 : ACode := .loop [0, 3] g42B0
theorem g42L0_eq {AP : Nat → Option AFunc} {st : St} : cl AP g42L0 st = after (cl AP g42L0) (cl AP g42B0 (norm (restrict [0, 3] st))) := cl_loop
def g42 : AFunc := ⟨1, 38, [.t 2],
  (.seq
   (.reg [⟨some 2, none, [.c (.pv (.bool false))], .v (.mv)⟩] [0])
   (.seq
    (.seq
     (.reg [⟨some 3, none, [.c (.pv (.int .i64 0))], .v (.mv)⟩] [0, 3])
     (.block 0
      g42L0))
    (.seq
     (.reg [⟨some 2, none, [.c (.pv (.bool true))], .v (.mv)⟩] [2])
     .ret)))⟩

/- typedholes/subst.Idempotent -/
def g43 : AFunc := ⟨1, 7, [.t 2],
  (.seq
   (.reg [⟨some 1, none, [.t 0], .boxS 1⟩,
     ⟨some 2, none, [.c (.pv (.bool false))], .v (.mv)⟩] [1])
   (.seq
    (.reg [⟨some 3, none, [.t 1], .loadS 1 false⟩,
      ⟨some 4, none, [.t 1], .v (.mkfn 90)⟩,
      ⟨some 5, none, [.t 3, .t 4], .callI 89 []⟩,
      ⟨some 6, none, [.t 5], .v (.un .not)⟩,
      ⟨some 2, none, [.t 6], .v (.mv)⟩] [2])
    .ret))⟩

/- typedholes/typedholesref13.Idempotent -/
def g44B0 : ACode :=
  (.seq
   (.seq
    (.reg [⟨some 4, none, [.t 3], .v (.mv)⟩,
      ⟨some 5, none, [.t 0], .v (.mv)⟩,
      ⟨some 6, none, [.t 5], .v (.len)⟩,
      ⟨some 7, none, [.t 4, .t 6], .v (.bin .lss)⟩] [0, 3, 7])
    (.cond (.t 7)
     .skip
     (.exit 0)))
   (.seq
    (.block 1
     (.seq
      (.reg [⟨some 10, none, [.t 0], .v (.mv)⟩,
        ⟨some 11, none, [.t 3], .v (.mv)⟩,
        ⟨some 12, none, [.t 10, .t 11], .v (.slice false 6 false true false)⟩,
        ⟨some 13, none, [.t 0], .v (.mv)⟩,
        ⟨some 14, none, [.t 3], .v (.mv)⟩,
        ⟨some 15, none, [.t 13, .t 14], .v (.iaddr 6)⟩,
        ⟨some 16, none, [.t 15], .v (.faddr 0)⟩,
        ⟨some 17, none, [.t 16], .v (.loadE 1 false)⟩,
        ⟨some 18, none, [.t 12, .t 17], .callP 65⟩,
        ⟨some 19, none, [.t 18], .v (.un .not)⟩,
        ⟨some 20, none, [.t 19], .v (.mv)⟩,
        ⟨some 21, some (20, true), [.t 0], .v (.mv)⟩,
        ⟨some 22, some (20, true), [.t 0], .v (.mv)⟩,
        ⟨some 23, some (20, true), [.t 3], .v (.mv)⟩,
        ⟨some 24, some (20, true), [.t 22, .t 23], .v (.iaddr 6)⟩,
        ⟨some 25, some (20, true), [.t 24], .v (.faddr 1)⟩,
        ⟨some 26, some (20, true), [.t 25], .v (.loadE 5 true)⟩,
        ⟨some 27, some (20, true), [.t 21, .t 26], .callP 22⟩,
        ⟨some 28, some (20, true), [.t 0], .v (.mv)⟩,
        ⟨some 29, some (20, true), [.t 3], .v (.mv)⟩,
        ⟨some 30, some (20, true), [.t 28, .t 29], .v (.iaddr 6)⟩,
        ⟨some 31, some (20, true), [.t 30], .v (.faddr 1)⟩,
        ⟨some 32, some (20, true), [.t 31], .v (.loadE 5 true)⟩,
        ⟨some 33, some (20, true), [.t 27, .t 32], .callP 20⟩,
        ⟨some 34, some (20, true), [.t 33], .v (.un .not)⟩,
        ⟨some 35, none, [.t 20, .t 34, .c (.pv (.bool false))], .v (.pick)⟩] [0, 3, 35])
      (.cond (.t 35)
       (.seq
        (.reg [⟨some 2, none, [.c (.pv (.bool false))], .v (.mv)⟩] [2])
        .ret)
       .skip)))
    (.reg [⟨some 8, none, [.t 3], .v (.mv)⟩,
      ⟨some 9, none, [.t 8, .c (.pv (.int .i64 1))], .v (.bin .add)⟩,
      ⟨some 3, none, [.t 9], .v (.mv)⟩] [0, 3])))
def g44L0 : ACode := .loop [0, 3] g44B0
theorem g44L0_eq {AP : Nat → Option AFunc} {st : St} : cl AP g44L0 st = after (cl AP g44L0) (cl AP g44B0 (norm (restrict [0, 3] st))) := cl_loop
def g44 : AFunc := ⟨1, 36, [.t 2],
  (.seq
   (.reg [⟨some 2, none, [.c (.pv (.bool false))], .v (.mv)⟩] [0])
   (.seq
    (.seq
     (.reg [⟨some 3, none, [.c (.pv (.int .i64 0))], .v (.mv)⟩] [0, 3])
     (.block 0
      g44L0))
    (.seq
     (.reg [⟨some 2, none, [.c (.pv (.bool true))], .v (.mv)⟩] [2])
     .ret)))⟩

/- typedholes/types.Replace -/
def g45 : AFunc := ⟨2, 8, [.c 4 5 true],
  (.seq
   (.reg [⟨some 2, none, [.t 0], .box 2 5⟩,
     ⟨some 3, none, [.t 1], .boxS 1⟩,
     ⟨some 4, none, [], .alloc 4 [.int .i64 0, .str [], .int .i64 0, .int .i64 0, .lst []]⟩] [2, 3, 4])
   (.seq
    (.reg [⟨some 5, none, [.t 2], .loadL 2 0 5 true⟩,
      ⟨some 6, none, [.t 3], .v (.mkfn 92)⟩,
      ⟨some 7, none, [.t 5, .t 6], .callI 91 []⟩,
      ⟨none, none, [.t 4, .t 7], .storeL 4 0 5⟩] [4])
    .ret))⟩

/- typedholes/typedholesref3.Replace -/
def g46B0 : ACode :=
  (.seq
   (.seq
    (.reg [⟨some 11, none, [.t 5], .v (.mv)⟩,
      ⟨some 12, none, [.t 1], .v (.mv)⟩,
      ⟨some 13, none, [.t 12], .v (.len)⟩,
      ⟨some 14, none, [.t 11, .t 13], .v (.bin .lss)⟩] [1, 2, 4, 5, 14])
    (.cond (.t 14)
     .skip
     (.exit 0)))
   (.seq
    (.block 1
     (.seq
      (.reg [⟨some 17, none, [.t 1], .v (.mv)⟩,
        ⟨some 18, none, [.t 5], .v (.mv)⟩,
        ⟨some 19, none, [.t 17, .t 18], .v (.iaddr 6)⟩,
        ⟨some 20, none, [.t 19], .v (.faddr 0)⟩,
        ⟨some 21, none, [.t 20], .v (.loadE 1 false)⟩,
        ⟨some 22, none, [.t 2], .v (.faddr 2)⟩,
        ⟨some 23, none, [.t 22], .loadL 2 2 1 false⟩,
        ⟨some 24, none, [.t 21, .t 23], .v (.bin .eql)⟩] [1, 2, 4, 5, 24])
      (.cond (.t 24)
       (.seq
        (.reg [⟨some 25, none, [.t 1], .v (.mv)⟩,
          ⟨some 26, none, [.t 5], .v (.mv)⟩,
          ⟨some 27, none, [.t 25, .t 26], .v (.iaddr 6)⟩,
          ⟨some 28, none, [.t 27], .v (.faddr 1)⟩,
          ⟨some 29, none, [.t 28], .v (.loadE 5 true)⟩,
          ⟨none, none, [.t 4, .t 29], .storeL 4 0 5⟩] [4])
        .ret)
       .skip)))
    (.reg [⟨some 15, none, [.t 5], .v (.mv)⟩,
      ⟨some 16, none, [.t 15, .c (.pv (.int .i64 1))], .v (.bin .add)⟩,
      ⟨some 5, none, [.t 16], .v (.mv)⟩] [1, 2, 4, 5])))
def g46L0 : ACode := .loop [1, 2, 4, 5] g46B0
theorem g46L0_eq {AP : Nat → Option AFunc} {st : St} : cl AP g46L0 st = after (cl AP g46L0) (cl AP g46B0 (norm (restrict [1, 2, 4, 5] st))) := cl_loop
def g46B1 : ACode :=
  (.seq
   (.seq
    (.reg [⟨some 33, none, [.t 7], .v (.mv)⟩,
      ⟨some 34, none, [.t 2], .v (.faddr 4)⟩,
      ⟨some 35, none, [.t 34], .loadL 2 4 1 false⟩,
      ⟨some 36, none, [.t 35], .v (.len)⟩,
      ⟨some 37, none, [.t 33, .t 36], .v (.bin .lss)⟩] [1, 2, 4, 6, 7, 37])
    (.cond (.t 37)
     .skip
     (.exit 2)))
   (.seq
    (.block 3
     (.reg [⟨some 40, none, [.t 6], .v (.faddr 4)⟩,
       ⟨some 41, none, [.t 40], .loadL 6 4 1 false⟩,
       ⟨some 42, none, [.t 2], .v (.faddr 4)⟩,
       ⟨some 43, none, [.t 42], .loadL 2 4 1 false⟩,
       ⟨some 44, none, [.t 7], .v (.mv)⟩,
       ⟨some 45, none, [.t 43, .t 44], .v (.iaddr 5)⟩,
       ⟨some 46, none, [.t 45], .v (.loadE 5 true)⟩,
       ⟨some 47, none, [.t 1], .v (.mv)⟩,
       ⟨some 48, none, [.t 46, .t 47], .callP 46⟩,
       ⟨some 49, none, [.t 48], .v (.bslice 5)⟩,
       ⟨some 50, none, [.t 41, .t 49], .append 5 64⟩,
       ⟨some 51, none, [.t 6], .v (.faddr 4)⟩,
       ⟨none, none, [.t 51, .t 50], .storeL 6 4 1⟩] [1, 2, 4, 6, 7]))
    (.reg [⟨some 38, none, [.t 7], .v (.mv)⟩,
      ⟨some 39, none, [.t 38, .c (.pv (.int .i64 1))], .v (.bin .add)⟩,
      ⟨some 7, none, [.t 39], .v (.mv)⟩] [1, 2, 4, 6, 7])))
def g46L1 : ACode := .loop [1, 2, 4, 6, 7] g46B1
theorem g46L1_eq {AP : Nat → Option AFunc} {st : St} : cl AP g46L1 st = after (cl AP g46L1) (cl AP g46B1 (norm (restrict [1, 2, 4, 6, 7] st))) := cl_loop
def g46 : AFunc := ⟨2, 53, [.c 4 5 true],
  (.seq
   (.reg [⟨some 2, none, [.t 0], .box 2 5⟩,
     ⟨some 4, none, [], .alloc 4 [.int .i64 0, .str [], .int .i64 0, .int .i64 0, .lst []]⟩] [1, 2, 4])
   (.seq
    (.seq
     (.reg [⟨some 8, none, [.t 2], .v (.faddr 0)⟩,
       ⟨some 9, none, [.t 8], .loadL 2 0 1 false⟩,
       ⟨some 10, none, [.t 9, .c (.pv (.int .i64 1))], .v (.bin .eql)⟩] [1, 2, 4, 10])
     (.cond (.t 10)
      (.seq
       (.seq
        (.reg [⟨some 5, none, [.c (.pv (.int .i64 0))], .v (.mv)⟩] [1, 2, 4, 5])
        (.block 0
         g46L0))
       (.seq
        (.reg [⟨some 30, none, [.t 2], .loadL 2 0 5 true⟩,
          ⟨none, none, [.t 4, .t 30], .storeL 4 0 5⟩] [4])
        .ret))
      .skip))
    (.seq
     (.reg [⟨some 31, none, [.t 2], .loadL 2 0 5 true⟩,
       ⟨some 6, none, [], .alloc 6 [.int .i64 0, .str [], .int .i64 0, .int .i64 0, .lst []]⟩,
       ⟨none, none, [.t 6, .t 31], .storeL 6 0 5⟩] [1, 2, 4, 6])
     (.seq
      (.reg [⟨some 32, none, [.t 6], .v (.faddr 4)⟩,
        ⟨none, none, [.t 32, .c (.clp [])], .storeL 6 4 1⟩] [1, 2, 4, 6])
      (.seq
       (.seq
        (.reg [⟨some 7, none, [.c (.pv (.int .i64 0))], .v (.mv)⟩] [1, 2, 4, 6, 7])
        (.block 2
         g46L1))
       (.seq
        (.reg [⟨some 52, none, [.t 6], .loadL 6 0 5 true⟩,
          ⟨none, none, [.t 4, .t 52], .storeL 4 0 5⟩] [4])
        .ret))))))⟩

/- typedholes/types.Open -/
def g47 : AFunc := ⟨2, 8, [.c 4 5 true],
  (.seq
   (.reg [⟨some 2, none, [.t 0], .box 2 5⟩,
     ⟨some 3, none, [.t 1], .boxS 1⟩,
     ⟨some 4, none, [], .alloc 4 [.int .i64 0, .str [], .int .i64 0, .int .i64 0, .lst []]⟩] [2, 3, 4])
   (.seq
    (.reg [⟨some 5, none, [.t 2], .loadL 2 0 5 true⟩,
      ⟨some 6, none, [.t 3], .v (.mkfn 93)⟩,
      ⟨some 7, none, [.t 5, .t 6], .callI 91 []⟩,
      ⟨none, none, [.t 4, .t 7], .storeL 4 0 5⟩] [4])
    .ret))⟩

/- typedholes/typedholesref3.Open -/
def g48B0 : ACode :=
  (.seq
   (.seq
    (.reg [⟨some 29, none, [.t 6], .v (.mv)⟩,
      ⟨some 30, none, [.t 2], .v (.faddr 4)⟩,
      ⟨some 31, none, [.t 30], .loadL 2 4 1 false⟩,
      ⟨some 32, none, [.t 31], .v (.len)⟩,
      ⟨some 33, none, [.t 29, .t 32], .v (.bin .lss)⟩] [1, 2, 4, 5, 6, 33])
    (.cond (.t 33)
     .skip
     (.exit 0)))
   (.seq
    (.block 1
     (.reg [⟨some 36, none, [.t 5], .v (.faddr 4)⟩,
       ⟨some 37, none, [.t 36], .loadL 5 4 1 false⟩,
       ⟨some 38, none, [.t 2], .v (.faddr 4)⟩,
       ⟨some 39, none, [.t 38], .loadL 2 4 1 false⟩,
       ⟨some 40, none, [.t 6], .v (.mv)⟩,
       ⟨some 41, none, [.t 39, .t 40], .v (.iaddr 5)⟩,
       ⟨some 42, none, [.t 41], .v (.loadE 5 true)⟩,
       ⟨some 43, none, [.t 1], .v (.mv)⟩,
       ⟨some 44, none, [.t 42, .t 43], .callP 48⟩,
       ⟨some 45, none, [.t 44], .v (.bslice 5)⟩,
       ⟨some 46, none, [.t 37, .t 45], .append 5 64⟩,
       ⟨some 47, none, [.t 5], .v (.faddr 4)⟩,
       ⟨none, none, [.t 47, .t 46], .storeL 5 4 1⟩] [1, 2, 4, 5, 6]))
    (.reg [⟨some 34, none, [.t 6], .v (.mv)⟩,
      ⟨some 35, none, [.t 34, .c (.pv (.int .i64 1))], .v (.bin .add)⟩,
      ⟨some 6, none, [.t 35], .v (.mv)⟩] [1, 2, 4, 5, 6])))
def g48L0 : ACode := .loop [1, 2, 4, 5, 6] g48B0
theorem g48L0_eq {AP : Nat → Option AFunc} {st : St} : cl AP g48L0 st = after (cl AP g48L0) (cl AP g48B0 (norm (restrict [1, 2, 4, 5, 6] st))) := cl_loop
def g48 : AFunc := ⟨2, 49, [.c 4 5 true],
  (.seq
   (.reg [⟨some 2, none, [.t 0], .box 2 5⟩,
     ⟨some 4, none, [], .alloc 4 [.int .i64 0, .str [], .int .i64 0, .int .i64 0, .lst []]⟩] [1, 2, 4])
   (.seq
    (.seq
     (.reg [⟨some 7, none, [.t 2], .v (.faddr 0)⟩,
       ⟨some 8, none, [.t 7], .loadL 2 0 1 false⟩,
       ⟨some 9, none, [.t 8, .c (.pv (.int .i64 2))], .v (.bin .eql)⟩,
       ⟨some 10, none, [.t 9], .v (.mv)⟩,
       ⟨some 11, some (10, true), [.t 2], .v (.faddr 2)⟩,
       ⟨some 12, some (10, true), [.t 11], .loadL 2 2 1 false⟩,
       ⟨some 13, some (10, true), [.t 12, .c (.pv (.int .i64 0))], .v (.bin .geq)⟩,
       ⟨some 14, none, [.t 10, .t 13, .c (.pv (.bool false))], .v (.pick)⟩,
       ⟨some 15, none, [.t 14], .v (.mv)⟩,
       ⟨some 16, some (15, true), [.t 2], .v (.faddr 2)⟩,
       ⟨some 17, some (15, true), [.t 16], .loadL 2 2 1 false⟩,
       ⟨some 18, some (15, true), [.t 1], .v (.mv)⟩,
       ⟨some 19, some (15, true), [.t 18], .v (.len)⟩,
       ⟨some 20, some (15, true), [.t 17, .t 19], .v (.bin .lss)⟩,
       ⟨some 21, none, [.t 15, .t 20, .c (.pv (.bool false))], .v (.pick)⟩] [1, 2, 4, 21])
     (.cond (.t 21)
      (.seq
       (.reg [⟨some 22, none, [.t 1], .v (.mv)⟩,
         ⟨some 23, none, [.t 2], .v (.faddr 2)⟩,
         ⟨some 24, none, [.t 23], .loadL 2 2 1 false⟩,
         ⟨some 25, none, [.t 22, .t 24], .v (.iaddr 5)⟩,
         ⟨some 26, none, [.t 25], .v (.loadE 5 true)⟩,
         ⟨none, none, [.t 4, .t 26], .storeL 4 0 5⟩] [4])
       .ret)
      .skip))
    (.seq
     (.reg [⟨some 27, none, [.t 2], .loadL 2 0 5 true⟩,
       ⟨some 5, none, [], .alloc 5 [.int .i64 0, .str [], .int .i64 0, .int .i64 0, .lst []]⟩,
       ⟨none, none, [.t 5, .t 27], .storeL 5 0 5⟩] [1, 2, 4, 5])
     (.seq
      (.reg [⟨some 28, none, [.t 5], .v (.faddr 4)⟩,
        ⟨none, none, [.t 28, .c (.clp [])], .storeL 5 4 1⟩] [1, 2, 4, 5])
      (.seq
       (.seq
        (.reg [⟨some 6, none, [.c (.pv (.int .i64 0))], .v (.mv)⟩] [1, 2, 4, 5, 6])
        (.block 0
         g48L0))
       (.seq
        (.reg [⟨some 48, none, [.t 5], .loadL 5 0 5 true⟩,
          ⟨none, none, [.t 4, .t 48], .storeL 4 0 5⟩] [4])
        .ret))))))⟩

/- typedholes/types.Nodes -/
def g49B0 : ACode :=
  (.seq
   (.reg [⟨some 10, none, [.t 9, .t 8], .v (.bin .lss)⟩] [3, 7, 8, 9, 10])
   (.seq
    (.cond (.t 10)
     .skip
     (.exit 0))
    (.seq
     (.block 1
      (.seq
       (.reg [⟨some 11, none, [.t 7, .t 9], .v (.iaddr 5)⟩,
         ⟨some 12, none, [.t 11], .v (.loadE 5 true)⟩,
         ⟨some 5, none, [], .alloc 5 [.int .i64 0, .str [], .int .i64 0, .int .i64 0, .lst []]⟩,
         ⟨none, none, [.t 5, .t 12], .storeL 5 0 5⟩] [3, 5, 7, 8, 9])
       (.reg [⟨some 13, none, [.t 3], .v (.mv)⟩,
         ⟨some 14, none, [.t 5], .loadL 5 0 5 true⟩,
         ⟨some 15, none, [.t 14], .callP 49⟩,
         ⟨some 16, none, [.t 13, .t 15], .v (.bin .add)⟩,
         ⟨some 3, none, [.t 16], .v (.mv)⟩] [3, 7, 8, 9])))
     (.reg [⟨some 17, none, [.t 9, .c (.pv (.int .i64 1))], .v (.bin .add)⟩,
       ⟨some 9, none, [.t 17], .v (.mv)⟩] [3, 7, 8, 9]))))
def g49L0 : ACode := .loop [3, 7, 8, 9] g49B0
theorem g49L0_eq {AP : Nat → Option AFunc} {st : St} : cl AP g49L0 st = after (cl AP g49L0) (cl AP g49B0 (norm (restrict [3, 7, 8, 9] st))) := cl_loop
def g49 : AFunc := ⟨1, 19, [.t 2],
  (.seq
   (.reg [⟨some 1, none, [.t 0], .box 1 5⟩,
     ⟨some 2, none, [.c (.pv (.int .i64 0))], .v (.mv)⟩] [1])
   (.seq
    (.reg [⟨some 3, none, [.c (.pv (.int .i64 1))], .v (.mv)⟩] [1, 3])
    (.seq
     (.seq
      (.reg [⟨some 6, none, [.t 1], .v (.faddr 4)⟩,
        ⟨some 7, none, [.t 6], .loadL 1 4 1 false⟩,
        ⟨some 8, none, [.t 7], .v (.len)⟩,
        ⟨some 9, none, [.c (.pv (.int .i64 0))], .v (.mv)⟩] [3, 7, 8, 9])
      (.block 0
       g49L0))
     (.seq
      (.reg [⟨some 18, none, [.t 3], .v (.mv)⟩,
        ⟨some 2, none, [.t 18], .v (.mv)⟩] [2])
      .ret))))⟩

/- typedholes/typedholesref3.Nodes -/
def g50B0 : ACode :=
  (.seq
   (.seq
    (.reg [⟨some 5, none, [.t 4], .v (.mv)⟩,
      ⟨some 6, none, [.t 1], .v (.faddr 4)⟩,
      ⟨some 7, none, [.t 6], .loadL 1 4 1 false⟩,
      ⟨some 8, none, [.t 7], .v (.len)⟩,
      ⟨some 9, none, [.t 5, .t 8], .v (.bin .lss)⟩] [1, 3, 4, 9])
    (.cond (.t 9)
     .skip
     (.exit 0)))
   (.seq
    (.block 1
     (.reg [⟨some 12, none, [.t 3], .v (.mv)⟩,
       ⟨some 13, none, [.t 1], .v (.faddr 4)⟩,
       ⟨some 14, none, [.t 13], .loadL 1 4 1 false⟩,
       ⟨some 15, none, [.t 4], .v (.mv)⟩,
       ⟨some 16, none, [.t 14, .t 15], .v (.iaddr 5)⟩,
       ⟨some 17, none, [.t 16], .v (.loadE 5 true)⟩,
       ⟨some 18, none, [.t 17], .callP 50⟩,
       ⟨some 19, none, [.t 12, .t 18], .v (.bin .add)⟩,
       ⟨some 3, none, [.t 19], .v (.mv)⟩] [1, 3, 4]))
    (.reg [⟨some 10, none, [.t 4], .v (.mv)⟩,
      ⟨some 11, none, [.t 10, .c (.pv (.int .i64 1))], .v (.bin .add)⟩,
      ⟨some 4, none, [.t 11], .v (.mv)⟩] [1, 3, 4])))
def g50L0 : ACode := .loop [1, 3, 4] g50B0
theorem g50L0_eq {AP : Nat → Option AFunc} {st : St} : cl AP g50L0 st = after (cl AP g50L0) (cl AP g50B0 (norm (restrict [1, 3, 4] st))) := cl_loop
def g50 : AFunc := ⟨1, 21, [.t 2],
  (.seq
   (.reg [⟨some 1, none, [.t 0], .box 1 5⟩,
     ⟨some 2, none, [.c (.pv (.int .i64 0))], .v (.mv)⟩] [1])
   (.seq
    (.reg [⟨some 3, none, [.c (.pv (.int .i64 1))], .v (.mv)⟩] [1, 3])
    (.seq
     (.seq
      (.reg [⟨some 4, none, [.c (.pv (.int .i64 0))], .v (.mv)⟩] [1, 3, 4])
      (.block 0
       g50L0))
     (.seq
      (.reg [⟨some 20, none, [.t 3], .v (.mv)⟩,
        ⟨some 2, none, [.t 20], .v (.mv)⟩] [2])
      .ret))))⟩

/- typedholes/types.Depth -/
def g51B0 : ACode :=
  (.seq
   (.reg [⟨some 10, none, [.t 9, .t 8], .v (.bin .lss)⟩] [3, 7, 8, 9, 10])
   (.seq
    (.cond (.t 10)
     .skip
     (.exit 0))
    (.seq
     (.block 1
      (.seq
       (.reg [⟨some 11, none, [.t 7, .t 9], .v (.iaddr 5)⟩,
         ⟨some 12, none, [.t 11], .v (.loadE 5 true)⟩,
         ⟨some 5, none, [], .alloc 5 [.int .i64 0, .str [], .int .i64 0, .int .i64 0, .lst []]⟩,
         ⟨none, none, [.t 5, .t 12], .storeL 5 0 5⟩] [3, 5, 7, 8, 9])
       (.reg [⟨some 13, none, [.t 3], .v (.mv)⟩,
         ⟨some 14, none, [.t 5], .loadL 5 0 5 true⟩,
         ⟨some 15, none, [.t 14], .callP 51⟩,
         ⟨some 16, none, [.c (.pv (.int .i64 1)), .t 15], .v (.bin .add)⟩,
         ⟨some 17, none, [.t 13, .t 16], .v (.mx)⟩,
         ⟨some 3, none, [.t 17], .v (.mv)⟩] [3, 7, 8, 9])))
     (.reg [⟨some 18, none, [.t 9, .c (.pv (.int .i64 1))], .v (.bin .add)⟩,
       ⟨some 9, none, [.t 18], .v (.mv)⟩] [3, 7, 8, 9]))))
def g51L0 : ACode := .loop [3, 7, 8, 9] g51B0
theorem g51L0_eq {AP : Nat → Option AFunc} {st : St} : cl AP g51L0 st = after (cl AP g51L0) (cl AP g51B0 (norm (restrict [3, 7, 8, 9] st))) := cl_loop
def g51 : AFunc := ⟨1, 20, [.t 2],
  (.seq
   (.reg [⟨some 1, none, [.t 0], .box 1 5⟩,
     ⟨some 2, none, [.c (.pv (.int .i64 0))], .v (.mv)⟩] [1])
   (.seq
    (.reg [⟨some 3, none, [.c (.pv (.int .i64 0))], .v (.mv)⟩] [1, 3])
    (.seq
     (.seq
      (.reg [⟨some 6, none, [.t 1], .v (.faddr 4)⟩,
        ⟨some 7, none, [.t 6], .loadL 1 4 1 false⟩,
        ⟨some 8, none, [.t 7], .v (.len)⟩,
        ⟨some 9, none, [.c (.pv (.int .i64 0))], .v (.mv)⟩] [3, 7, 8, 9])
      (.block 0
       g51L0))
     (.seq
      (.reg [⟨some 19, none, [.t 3], .v (.mv)⟩,
        ⟨some 2, none, [.t 19], .v (.mv)⟩] [2])
      .ret))))⟩

/- typedholes/typedholesref3.Depth -/
def g52B0 : ACode :=
  (.seq
   (.seq
    (.reg [⟨some 5, none, [.t 4], .v (.mv)⟩,
      ⟨some 6, none, [.t 1], .v (.faddr 4)⟩,
      ⟨some 7, none, [.t 6], .loadL 1 4 1 false⟩,
      ⟨some 8, none, [.t 7], .v (.len)⟩,
      ⟨some 9, none, [.t 5, .t 8], .v (.bin .lss)⟩] [1, 3, 4, 9])
    (.cond (.t 9)
     .skip
     (.exit 0)))
   (.seq
    (.block 1
     (.reg [⟨some 12, none, [.t 3], .v (.mv)⟩,
       ⟨some 13, none, [.t 1], .v (.faddr 4)⟩,
       ⟨some 14, none, [.t 13], .loadL 1 4 1 false⟩,
       ⟨some 15, none, [.t 4], .v (.mv)⟩,
       ⟨some 16, none, [.t 14, .t 15], .v (.iaddr 5)⟩,
       ⟨some 17, none, [.t 16], .v (.loadE 5 true)⟩,
       ⟨some 18, none, [.t 17], .callP 52⟩,
       ⟨some 19, none, [.c (.pv (.int .i64 1)), .t 18], .v (.bin .add)⟩,
       ⟨some 20, none, [.t 12, .t 19], .v (.mx)⟩,
       ⟨some 3, none, [.t 20], .v (.mv)⟩] [1, 3, 4]))
    (.reg [⟨some 10, none, [.t 4], .v (.mv)⟩,
      ⟨some 11, none, [.t 10, .c (.pv (.int .i64 1))], .v (.bin .add)⟩,
      ⟨some 4, none, [.t 11], .v (.mv)⟩] [1, 3, 4])))
def g52L0 : ACode := .loop [1, 3, 4] g52B0
theorem g52L0_eq {AP : Nat → Option AFunc} {st : St} : cl AP g52L0 st = after (cl AP g52L0) (cl AP g52B0 (norm (restrict [1, 3, 4] st))) := cl_loop
def g52 : AFunc := ⟨1, 22, [.t 2],
  (.seq
   (.reg [⟨some 1, none, [.t 0], .box 1 5⟩,
     ⟨some 2, none, [.c (.pv (.int .i64 0))], .v (.mv)⟩] [1])
   (.seq
    (.reg [⟨some 3, none, [.c (.pv (.int .i64 0))], .v (.mv)⟩] [1, 3])
    (.seq
     (.seq
      (.reg [⟨some 4, none, [.c (.pv (.int .i64 0))], .v (.mv)⟩] [1, 3, 4])
      (.block 0
       g52L0))
     (.seq
      (.reg [⟨some 21, none, [.t 3], .v (.mv)⟩,
        ⟨some 2, none, [.t 21], .v (.mv)⟩] [2])
      .ret))))⟩

/- typedholes/types.Occurs -/
def g53 : AFunc := ⟨2, 20, [.t 4],
  (.seq
   (.reg [⟨some 2, none, [.t 0], .boxS 1⟩,
     ⟨some 3, none, [.t 1], .box 3 5⟩,
     ⟨some 4, none, [.c (.pv (.bool false))], .v (.mv)⟩] [2, 3])
   (.seq
    (.reg [⟨some 5, none, [.t 3], .v (.faddr 0)⟩,
      ⟨some 6, none, [.t 5], .loadL 3 0 1 false⟩,
      ⟨some 7, none, [.t 6, .c (.pv (.int .i64 1))], .v (.bin .eql)⟩,
      ⟨some 8, none, [.t 7], .v (.mv)⟩,
      ⟨some 9, some (8, true), [.t 3], .v (.faddr 2)⟩,
      ⟨some 10, some (8, true), [.t 9], .loadL 3 2 1 false⟩,
      ⟨some 11, some (8, true), [.t 2], .loadS 1 false⟩,
      ⟨some 12, some (8, true), [.t 10, .t 11], .v (.bin .eql)⟩,
      ⟨some 13, none, [.t 8, .t 12, .c (.pv (.bool false))], .v (.pick)⟩,
      ⟨some 14, none, [.t 13], .v (.mv)⟩,
      ⟨some 15, some (14, false), [.t 3], .v (.faddr 4)⟩,
      ⟨some 16, some (14, false), [.t 15], .loadL 3 4 1 false⟩,
      ⟨some 17, some (14, false), [.t 2], .v (.mkfn 94)⟩,
      ⟨some 18, some (14, false), [.t 16, .t 17], .callI 75 []⟩,
      ⟨some 19, none, [.t 14, .c (.pv (.bool true)), .t 18], .v (.pick)⟩,
      ⟨some 4, none, [.t 19], .v (.mv)⟩] [4])
    .ret))⟩

/- typedholes/typedholesref3.Occurs -/
def g54 : AFunc := ⟨2, 10, [.t 4],
  (.seq
   (.reg [⟨some 3, none, [.t 1], .box 3 5⟩,
     ⟨some 4, none, [.c (.pv (.bool false))], .v (.mv)⟩] [0, 3])
   (.seq
    (.reg [⟨some 5, none, [.t 3], .loadL 3 0 5 true⟩,
      ⟨some 6, none, [.t 5], .v (.bslice 5)⟩,
      ⟨some 7, none, [.t 6], .callP 56⟩,
      ⟨some 8, none, [.t 0], .v (.mv)⟩,
      ⟨some 9, none, [.t 7, .t 8], .callP 95⟩,
      ⟨some 4, none, [.t 9], .v (.mv)⟩] [4])
    .ret))⟩

/- typedholes/types.Vars -/
def g55B0 : ACode :=
  (.seq
   (.reg [⟨some 9, none, [.t 8, .t 7], .v (.bin .lss)⟩] [3, 6, 7, 8, 9])
   (.seq
    (.cond (.t 9)
     .skip
     (.exit 0))
    (.seq
     (.block 1
      (.seq
       (.reg [⟨some 10, none, [.t 6, .t 8], .v (.iaddr 5)⟩,
         ⟨some 11, none, [.t 10], .v (.loadE 5 true)⟩,
         ⟨some 5, none, [], .alloc 5 [.int .i64 0, .str [], .int .i64 0, .int .i64 0, .lst []]⟩,
         ⟨none, none, [.t 5, .t 11], .storeL 5 0 5⟩] [3, 5, 6, 7, 8])
       (.reg [⟨some 12, none, [.t 5], .loadL 5 0 5 true⟩,
         ⟨some 13, none, [.t 3], .v (.mkfn 97)⟩,
         ⟨some 14, none, [.t 12, .t 13], .callI 96 []⟩] [3, 6, 7, 8])))
     (.reg [⟨some 15, none, [.t 8, .c (.pv (.int .i64 1))], .v (.bin .add)⟩,
       ⟨some 8, none, [.t 15], .v (.mv)⟩] [3, 6, 7, 8]))))
def g55L0 : ACode := .loop [3, 6, 7, 8] g55B0
theorem g55L0_eq {AP : Nat → Option AFunc} {st : St} : cl AP g55L0 st = after (cl AP g55L0) (cl AP g55B0 (norm (restrict [3, 6, 7, 8] st))) := cl_loop
def g55 : AFunc := ⟨1, 17, [.t 2],
  (.seq
   (.reg [⟨some 2, none, [.c (.clp [])], .v (.mv)⟩] [0])
   (.seq
    (.reg [⟨some 3, none, [], .allocS [.lst []]⟩] [0, 3])
    (.seq
     (.seq
      (.reg [⟨some 6, none, [.t 0], .v (.mv)⟩,
        ⟨some 7, none, [.t 6], .v (.len)⟩,
        ⟨some 8, none, [.c (.pv (.int .i64 0))], .v (.mv)⟩] [3, 6, 7, 8])
      (.block 0
       g55L0))
     (.seq
      (.reg [⟨some 16, none, [.t 3], .loadS 1 false⟩,
        ⟨some 2, none, [.t 16], .v (.mv)⟩] [2])
      .ret))))⟩

/- typedholes/typedholesref3.Vars -/
def g56B0 : ACode :=
  (.seq
   (.seq
    (.reg [⟨some 7, none, [.t 4], .v (.mv)⟩,
      ⟨some 8, none, [.t 0], .v (.mv)⟩,
      ⟨some 9, none, [.t 8], .v (.len)⟩,
      ⟨some 10, none, [.t 7, .t 9], .v (.bin .lss)⟩] [0, 3, 4, 10])
    (.cond (.t 10)
     .skip
     (.exit 0)))
   (.seq
    (.block 1
     (.reg [⟨some 13, none, [.t 3], .v (.mv)⟩,
       ⟨some 14, none, [.t 0], .v (.mv)⟩,
       ⟨some 15, none, [.t 4], .v (.mv)⟩,
       ⟨some 16, none, [.t 14, .t 15], .v (.iaddr 5)⟩,
       ⟨some 17, none, [.t 16], .v (.loadE 5 true)⟩,
       ⟨some 18, none, [.t 13, .t 17, .c (.pv (.int .i64 1))], .callI 99 [0]⟩,
       ⟨some 3, none, [.t 18], .v (.mv)⟩] [0, 3, 4]))
    (.reg [⟨some 11, none, [.t 4], .v (.mv)⟩,
      ⟨some 12, none, [.t 11, .c (.pv (.int .i64 1))], .v (.bin .add)⟩,
      ⟨some 4, none, [.t 12], .v (.mv)⟩] [0, 3, 4])))
def g56L0 : ACode := .loop [0, 3, 4] g56B0
theorem g56L0_eq {AP : Nat → Option AFunc} {st : St} : cl AP g56L0 st = after (cl AP g56L0) (cl AP g56B0 (norm (restrict [0, 3, 4] st))) := cl_loop
def g56B1 : ACode :=
  (.seq
   (.seq
    (.reg [⟨some 19, none, [.t 6], .v (.mv)⟩,
      ⟨some 20, none, [.t 3], .v (.mv)⟩,
      ⟨some 21, none, [.t 20], .v (.len)⟩,
      ⟨some 22, none, [.t 19, .t 21], .v (.bin .lss)⟩] [3, 5, 6, 22])
    (.cond (.t 22)
     .skip
     (.exit 2)))
   (.seq
    (.block 3
     (.seq
      (.reg [⟨some 25, none, [.t 5], .v (.mv)⟩,
        ⟨some 26, none, [.t 3], .v (.mv)⟩,
        ⟨some 27, none, [.t 6], .v (.mv)⟩,
        ⟨some 28, none, [.t 26, .t 27], .v (.iaddr 5)⟩,
        ⟨some 29, none, [.t 28], .v (.faddr 2)⟩,
        ⟨some 30, none, [.t 29], .v (.loadE 1 false)⟩,
        ⟨some 31, none, [.t 25, .t 30], .callP 95⟩,
        ⟨some 32, none, [.t 31], .v (.un .not)⟩] [3, 5, 6, 32])
      (.cond (.t 32)
       (.reg [⟨some 33, none, [.t 5], .v (.mv)⟩,
         ⟨some 34, none, [.t 3], .v (.mv)⟩,
         ⟨some 35, none, [.t 6], .v (.mv)⟩,
         ⟨some 36, none, [.t 34, .t 35], .v (.iaddr 5)⟩,
         ⟨some 37, none, [.t 36], .v (.faddr 2)⟩,
         ⟨some 38, none, [.t 37], .v (.loadE 1 false)⟩,
         ⟨some 39, none, [.t 38], .v (.bslice 1)⟩,
         ⟨some 40, none, [.t 33, .t 39], .append 1 8⟩,
         ⟨some 5, none, [.t 40], .v (.mv)⟩] [3, 5, 6])
       .skip)))
    (.reg [⟨some 23, none, [.t 6], .v (.mv)⟩,
      ⟨some 24, none, [.t 23, .c (.pv (.int .i64 1))], .v (.bin .add)⟩,
      ⟨some 6, none, [.t 24], .v (.mv)⟩] [3, 5, 6])))
def g56L1 : ACode := .loop [3, 5, 6] g56B1
theorem g56L1_eq {AP : Nat → Option AFunc} {st : St} : cl AP g56L1 st = after (cl AP g56L1) (cl AP g56B1 (norm (restrict [3, 5, 6] st))) := cl_loop
def g56 : AFunc := ⟨1, 42, [.t 2],
  (.seq
   (.reg [⟨some 2, none, [.c (.clp [])], .v (.mv)⟩] [0])
   (.seq
    (.reg [⟨some 3, none, [.c (.clp [])], .v (.mv)⟩] [0, 3])
    (.seq
     (.seq
      (.reg [⟨some 4, none, [.c (.pv (.int .i64 0))], .v (.mv)⟩] [0, 3, 4])
      (.block 0
       g56L0))
     (.seq
      (.reg [⟨some 5, none, [.c (.clp [])], .v (.mv)⟩] [3, 5])
      (.seq
       (.seq
        (.reg [⟨some 6, none, [.c (.pv (.int .i64 0))], .v (.mv)⟩] [3, 5, 6])
        (.block 2
         g56L1))
       (.seq
        (.reg [⟨some 41, none, [.t 5], .v (.mv)⟩,
          ⟨some 2, none, [.t 41], .v (.mv)⟩] [2])
        .ret))))))⟩

/- typedholes/typedholesref3.EqualAll -/
def g57B0 : ACode :=
  (.seq
   (.seq
    (.reg [⟨some 11, none, [.t 5], .v (.mv)⟩,
      ⟨some 12, none, [.t 0], .v (.mv)⟩,
      ⟨some 13, none, [.t 12], .v (.len)⟩,
      ⟨some 14, none, [.t 11, .t 13], .v (.bin .lss)⟩] [0, 1, 5, 14])
    (.cond (.t 14)
     .skip
     (.exit 0)))
   (.seq
    (.block 1
     (.seq
      (.reg [⟨some 17, none, [.t 0], .v (.mv)⟩,
        ⟨some 18, none, [.t 5], .v (.mv)⟩,
        ⟨some 19, none, [.t 17, .t 18], .v (.iaddr 5)⟩,
        ⟨some 20, none, [.t 19], .v (.loadE 5 true)⟩,
        ⟨some 21, none, [.t 1], .v (.mv)⟩,
        ⟨some 22, none, [.t 5], .v (.mv)⟩,
        ⟨some 23, none, [.t 21, .t 22], .v (.iaddr 5)⟩,
        ⟨some 24, none, [.t 23], .v (.loadE 5 true)⟩,
        ⟨some 25, none, [.t 20, .t 24], .callP 20⟩,
        ⟨some 26, none, [.t 25], .v (.un .not)⟩] [0, 1, 5, 26])
      (.cond (.t 26)
       (.seq
        (.reg [⟨some 4, none, [.c (.pv (.bool false))], .v (.mv)⟩] [4])
        .ret)
       .skip)))
    (.reg [⟨some 15, none, [.t 5], .v (.mv)⟩,
      ⟨some 16, none, [.t 15, .c (.pv (.int .i64 1))], .v (.bin .add)⟩,
      ⟨some 5, none, [.t 16], .v (.mv)⟩] [0, 1, 5])))
def g57L0 : ACode := .loop [0, 1, 5] g57B0
theorem g57L0_eq {AP : Nat → Option AFunc} {st : St} : cl AP g57L0 st = after (cl AP g57L0) (cl AP g57B0 (norm (restrict [0, 1, 5] st))) := cl_loop
def g57 : AFunc := ⟨2, 27, [.t 4],
  (.seq
   (.reg [⟨some 4, none, [.c (.pv (.bool false))], .v (.mv)⟩] [0, 1])
   (.seq
    (.seq
     (.reg [⟨some 6, none, [.t 0], .v (.mv)⟩,
       ⟨some 7, none, [.t 6], .v (.len)⟩,
       ⟨some 8, none, [.t 1], .v (.mv)⟩,
       ⟨some 9, none, [.t 8], .v (.len)⟩,
       ⟨some 10, none, [.t 7, .t 9], .v (.bin .neq)⟩] [0, 1, 10])
     (.cond (.t 10)
      (.seq
       (.reg [⟨some 4, none, [.c (.pv (.bool false))], .v (.mv)⟩] [4])
       .ret)
      .skip))
    (.seq
     (.seq
      (.reg [⟨some 5, none, [.c (.pv (.int .i64 0))], .v (.mv)⟩] [0, 1, 5])
      (.block 0
       g57L0))
     (.seq
      (.reg [⟨some 4, none, [.c (.pv (.bool true))], .v (.mv)⟩] [4])
      .ret))))⟩

/- typedholes/typedholesref3.Rigids -/
def g59B0 : ACode :=
  (.seq
   (.seq
    (.reg [⟨some 5, none, [.t 4], .v (.mv)⟩,
      ⟨some 6, none, [.t 0], .v (.mv)⟩,
      ⟨some 7, none, [.t 6], .v (.len)⟩,
      ⟨some 8, none, [.t 5, .t 7], .v (.bin .lss)⟩] [0, 3, 4, 8])
    (.cond (.t 8)
     .skip
     (.exit 0)))
   (.seq
    (.block 1
     (.reg [⟨some 11, none, [.t 3], .v (.mv)⟩,
       ⟨some 12, none, [.t 0], .v (.mv)⟩,
       ⟨some 13, none, [.t 4], .v (.mv)⟩,
       ⟨some 14, none, [.t 12, .t 13], .v (.iaddr 5)⟩,
       ⟨some 15, none, [.t 14], .v (.loadE 5 true)⟩,
       ⟨some 16, none, [.t 11, .t 15, .c (.pv (.int .i64 3))], .callI 99 [0]⟩,
       ⟨some 3, none, [.t 16], .v (.mv)⟩] [0, 3, 4]))
    (.reg [⟨some 9, none, [.t 4], .v (.mv)⟩,
      ⟨some 10, none, [.t 9, .c (.pv (.int .i64 1))], .v (.bin .add)⟩,
      ⟨some 4, none, [.t 10], .v (.mv)⟩] [0, 3, 4])))
def g59L0 : ACode := .loop [0, 3, 4] g59B0
theorem g59L0_eq {AP : Nat → Option AFunc} {st : St} : cl AP g59L0 st = after (cl AP g59L0) (cl AP g59B0 (norm (restrict [0, 3, 4] st))) := cl_loop
def g59 : AFunc := ⟨1, 18, [.t 2],
  (.seq
   (.reg [⟨some 2, none, [.c (.clp [])], .v (.mv)⟩] [0])
   (.seq
    (.reg [⟨some 3, none, [.c (.clp [])], .v (.mv)⟩] [0, 3])
    (.seq
     (.seq
      (.reg [⟨some 4, none, [.c (.pv (.int .i64 0))], .v (.mv)⟩] [0, 3, 4])
      (.block 0
       g59L0))
     (.seq
      (.reg [⟨some 17, none, [.t 3], .v (.mv)⟩,
        ⟨some 2, none, [.t 17], .v (.mv)⟩] [2])
      .ret))))⟩

/- typedholes/subst.Factor -/
def g60B0 : ACode :=
  (.seq
   (.reg [⟨some 15, none, [.t 14, .t 13], .v (.bin .lss)⟩] [0, 1, 8, 12, 13, 14, 15])
   (.seq
    (.cond (.t 15)
     .skip
     (.exit 0))
    (.seq
     (.block 1
      (.seq
       (.reg [⟨some 16, none, [.t 12, .t 14], .v (.iaddr 1)⟩,
         ⟨some 17, none, [.t 16], .v (.loadE 1 false)⟩,
         ⟨some 10, none, [.t 17], .v (.mv)⟩] [0, 1, 8, 10, 12, 13, 14])
       (.seq
        (.reg [⟨some 11, none, [.c (.pv (.bool false))], .v (.mv)⟩] [0, 1, 8, 10, 12, 13, 14])
        (.seq
         (.reg [⟨some 19, none, [.t 8], .v (.mv)⟩,
           ⟨some 20, none, [.t 0], .v (.mv)⟩,
           ⟨some 21, none, [.t 10], .v (.mv)⟩,
           ⟨some 22, none, [.t 21], .callP 87⟩,
           ⟨some 23, none, [.t 20, .t 22], .callP 21⟩,
           ⟨some 24, none, [.t 1], .v (.mv)⟩,
           ⟨some 25, none, [.t 10], .v (.mv)⟩,
           ⟨some 26, none, [.t 25], .callP 87⟩,
           ⟨some 27, none, [.t 24, .t 26], .callP 21⟩,
           ⟨some 28, none, [.t 19, .t 23, .t 27], .callI 102 [0]⟩,
           ⟨some 18, none, [.t 28], .v (.mv)⟩,
           ⟨some 29, none, [.t 18], .v (.ext 0)⟩,
           ⟨some 30, none, [.t 18], .v (.ext 1)⟩,
           ⟨some 8, none, [.t 29], .v (.mv)⟩,
           ⟨some 11, none, [.t 30], .v (.mv)⟩] [0, 1, 8, 11, 12, 13, 14])
         (.seq
          (.reg [⟨some 31, none, [.t 11], .v (.mv)⟩,
            ⟨some 32, none, [.t 31], .v (.un .not)⟩] [0, 1, 8, 12, 13, 14, 32])
          (.cond (.t 32)
           (.seq
            (.reg [⟨some 6, none, [.c (.clp [])], .v (.mv)⟩,
              ⟨some 7, none, [.c (.pv (.bool false))], .v (.mv)⟩] [6, 7])
            .ret)
           .skip))))))
     (.reg [⟨some 33, none, [.t 14, .c (.pv (.int .i64 1))], .v (.bin .add)⟩,
       ⟨some 14, none, [.t 33], .v (.mv)⟩] [0, 1, 8, 12, 13, 14]))))
def g60L0 : ACode := .loop [0, 1, 8, 12, 13, 14] g60B0
theorem g60L0_eq {AP : Nat → Option AFunc} {st : St} : cl AP g60L0 st = after (cl AP g60L0) (cl AP g60B0 (norm (restrict [0, 1, 8, 12, 13, 14] st))) := cl_loop
def g60 : AFunc := ⟨3, 35, [.t 6, .t 7],
  (.seq
   (.reg [⟨some 6, none, [.c (.clp [])], .v (.mv)⟩,
     ⟨some 7, none, [.c (.pv (.bool false))], .v (.mv)⟩] [0, 1, 2])
   (.seq
    (.reg [⟨some 8, none, [.c (.clp [])], .v (.mv)⟩] [0, 1, 2, 8])
    (.seq
     (.seq
      (.reg [⟨some 12, none, [.t 2], .v (.mv)⟩,
        ⟨some 13, none, [.t 12], .v (.len)⟩,
        ⟨some 14, none, [.c (.pv (.int .i64 0))], .v (.mv)⟩] [0, 1, 8, 12, 13, 14])
      (.block 0
       g60L0))
     (.seq
      (.reg [⟨some 34, none, [.t 8], .v (.mv)⟩,
        ⟨some 6, none, [.t 34], .v (.mv)⟩,
        ⟨some 7, none, [.c (.pv (.bool true))], .v (.mv)⟩] [6, 7])
      .ret))))⟩

/- typedholes/typedholesref13.Factor -/
def g61B0 : ACode :=
  (.seq
   (.seq
    (.reg [⟨some 11, none, [.t 10], .v (.mv)⟩,
      ⟨some 12, none, [.t 2], .v (.mv)⟩,
      ⟨some 13, none, [.t 12], .v (.len)⟩,
      ⟨some 14, none, [.t 11, .t 13], .v (.bin .lss)⟩,
      ⟨some 15, none, [.t 14], .v (.mv)⟩,
      ⟨some 16, some (15, true), [.t 9], .v (.mv)⟩,
      ⟨some 17, none, [.t 15, .t 16, .c (.pv (.bool false))], .v (.pick)⟩] [0, 1, 2, 8, 9, 10, 17])
    (.cond (.t 17)
     .skip
     (.exit 0)))
   (.seq
    (.block 1
     (.reg [⟨some 21, none, [.t 0], .v (.mv)⟩,
       ⟨some 22, none, [.t 2], .v (.mv)⟩,
       ⟨some 23, none, [.t 10], .v (.mv)⟩,
       ⟨some 24, none, [.t 22, .t 23], .v (.iaddr 1)⟩,
       ⟨some 25, none, [.t 24], .v (.loadE 1 false)⟩,
       ⟨some 26, none, [.t 25], .callP 63⟩,
       ⟨some 27, none, [.t 21, .t 26], .callP 22⟩,
       ⟨some 28, none, [.t 1], .v (.mv)⟩,
       ⟨some 29, none, [.t 2], .v (.mv)⟩,
       ⟨some 30, none, [.t 10], .v (.mv)⟩,
       ⟨some 31, none, [.t 29, .t 30], .v (.iaddr 1)⟩,
       ⟨some 32, none, [.t 31], .v (.loadE 1 false)⟩,
       ⟨some 33, none, [.t 32], .callP 63⟩,
       ⟨some 34, none, [.t 28, .t 33], .callP 22⟩,
       ⟨some 35, none, [.t 8], .v (.mv)⟩,
       ⟨some 36, none, [.t 27, .t 34, .t 35], .callP 103⟩,
       ⟨some 20, none, [.t 36], .v (.mv)⟩,
       ⟨some 37, none, [.t 20], .v (.ext 0)⟩,
       ⟨some 38, none, [.t 20], .v (.ext 1)⟩,
       ⟨some 8, none, [.t 37], .v (.mv)⟩,
       ⟨some 9, none, [.t 38], .v (.mv)⟩] [0, 1, 2, 8, 9, 10]))
    (.reg [⟨some 18, none, [.t 10], .v (.mv)⟩,
      ⟨some 19, none, [.t 18, .c (.pv (.int .i64 1))], .v (.bin .add)⟩,
      ⟨some 10, none, [.t 19], .v (.mv)⟩] [0, 1, 2, 8, 9, 10])))
def g61L0 : ACode := .loop [0, 1, 2, 8, 9, 10] g61B0
theorem g61L0_eq {AP : Nat → Option AFunc} {st : St} : cl AP g61L0 st = after (cl AP g61L0) (cl AP g61B0 (norm (restrict [0, 1, 2, 8, 9, 10] st))) := cl_loop
def g61 : AFunc := ⟨3, 42, [.t 6, .t 7],
  (.seq
   (.reg [⟨some 6, none, [.c (.clp [])], .v (.mv)⟩,
     ⟨some 7, none, [.c (.pv (.bool false))], .v (.mv)⟩] [0, 1, 2])
   (.seq
    (.reg [⟨some 8, none, [.c (.clp [])], .v (.mv)⟩] [0, 1, 2, 8])
    (.seq
     (.reg [⟨some 9, none, [.c (.pv (.bool true))], .v (.mv)⟩] [0, 1, 2, 8, 9])
     (.seq
      (.seq
       (.reg [⟨some 10, none, [.c (.pv (.int .i64 0))], .v (.mv)⟩] [0, 1, 2, 8, 9, 10])
       (.block 0
        g61L0))
      (.seq
       (.seq
        (.reg [⟨some 39, none, [.t 9], .v (.mv)⟩,
          ⟨some 40, none, [.t 39], .v (.un .not)⟩] [8, 40])
        (.cond (.t 40)
         (.seq
          (.reg [⟨some 6, none, [.c (.clp [])], .v (.mv)⟩,
            ⟨some 7, none, [.c (.pv (.bool false))], .v (.mv)⟩] [6, 7])
          .ret)
         .skip))
       (.seq
        (.reg [⟨some 41, none, [.t 8], .v (.mv)⟩,
          ⟨some 6, none, [.t 41], .v (.mv)⟩,
          ⟨some 7, none, [.c (.pv (.bool true))], .v (.mv)⟩] [6, 7])
        .ret))))))⟩

/- typedholes/typedholesref3.Con -/
def g62 : AFunc := ⟨2, 9, [.c 4 5 true],
  (.seq
   (.reg [⟨some 4, none, [], .alloc 4 [.int .i64 0, .str [], .int .i64 0, .int .i64 0, .lst []]⟩] [0, 1, 4])
   (.seq
    (.reg [⟨some 5, none, [.t 0], .v (.mv)⟩,
      ⟨some 6, none, [.t 1], .v (.mv)⟩,
      ⟨some 7, none, [.c (.clp []), .t 6], .append 5 64⟩,
      ⟨some 8, none, [.c (.pv (.int .i64 4)), .t 5, .t 7], .v (.build [.int .i64 0, .str [], .int .i64 0, .int .i64 0, .lst []] [(0, 1), (1, 1), (4, 1)])⟩,
      ⟨none, none, [.t 4, .t 8], .storeL 4 0 5⟩] [4])
    .ret))⟩

/- typedholes/typedholesref3.Var -/
def g63 : AFunc := ⟨1, 5, [.c 2 5 true],
  (.seq
   (.reg [⟨some 2, none, [], .alloc 2 [.int .i64 0, .str [], .int .i64 0, .int .i64 0, .lst []]⟩] [0, 2])
   (.seq
    (.reg [⟨some 3, none, [.t 0], .v (.mv)⟩,
      ⟨some 4, none, [.c (.pv (.int .i64 1)), .t 3], .v (.build [.int .i64 0, .str [], .int .i64 0, .int .i64 0, .lst []] [(0, 1), (2, 1)])⟩,
      ⟨none, none, [.t 2, .t 4], .storeL 2 0 5⟩] [2])
    .ret))⟩

/- typedholes/subst.find -/
def g64 : AFunc := ⟨2, 18, [.c 4 5 true, .t 5],
  (.seq
   (.reg [⟨some 3, none, [.t 1], .boxS 1⟩,
     ⟨some 4, none, [], .alloc 4 [.int .i64 0, .str [], .int .i64 0, .int .i64 0, .lst []]⟩,
     ⟨some 5, none, [.c (.pv (.bool false))], .v (.mv)⟩] [0, 3, 4])
   (.seq
    (.reg [⟨some 7, none, [.t 0], .v (.mv)⟩,
      ⟨some 8, none, [.t 3], .v (.mkfn 105)⟩,
      ⟨some 9, none, [.t 7, .t 8], .callI 104 []⟩,
      ⟨some 6, none, [.t 9], .v (.mv)⟩] [0, 4, 6])
    (.seq
     (.seq
      (.reg [⟨some 10, none, [.t 6], .v (.mv)⟩,
        ⟨some 11, none, [.t 10, .c (.pv (.int .i64 0))], .v (.bin .lss)⟩] [0, 4, 6, 11])
      (.cond (.t 11)
       (.seq
        (.reg [⟨some 12, none, [], .v (.build [.int .i64 0, .str [], .int .i64 0, .int .i64 0, .lst []] [])⟩,
          ⟨none, none, [.t 4, .t 12], .storeL 4 0 5⟩,
          ⟨some 5, none, [.c (.pv (.bool false))], .v (.mv)⟩] [4, 5])
        .ret)
       .skip))
     (.seq
      (.reg [⟨some 13, none, [.t 0], .v (.mv)⟩,
        ⟨some 14, none, [.t 6], .v (.mv)⟩,
        ⟨some 15, none, [.t 13, .t 14], .v (.iaddr 6)⟩,
        ⟨some 16, none, [.t 15], .v (.faddr 1)⟩,
        ⟨some 17, none, [.t 16], .v (.loadE 5 true)⟩,
        ⟨none, none, [.t 4, .t 17], .storeL 4 0 5⟩,
        ⟨some 5, none, [.c (.pv (.bool true))], .v (.mv)⟩] [4, 5])
      .ret))))⟩

/- typedholes/typedholesref13.has -/
def g65B0 : ACode :=
  (.seq
   (.seq
    (.reg [⟨some 6, none, [.t 5], .v (.mv)⟩,
      ⟨some 7, none, [.t 0], .v (.mv)⟩,
      ⟨some 8, none, [.t 7], .v (.len)⟩,
      ⟨some 9, none, [.t 6, .t 8], .v (.bin .lss)⟩] [0, 1, 5, 9])
    (.cond (.t 9)
     .skip
     (.exit 0)))
   (.seq
    (.block 1
     (.seq
      (.reg [⟨some 12, none, [.t 0], .v (.mv)⟩,
        ⟨some 13, none, [.t 5], .v (.mv)⟩,
        ⟨some 14, none, [.t 12, .t 13], .v (.iaddr 6)⟩,
        ⟨some 15, none, [.t 14], .v (.faddr 0)⟩,
        ⟨some 16, none, [.t 15], .v (.loadE 1 false)⟩,
        ⟨some 17, none, [.t 1], .v (.mv)⟩,
        ⟨some 18, none, [.t 16, .t 17], .v (.bin .eql)⟩] [0, 1, 5, 18])
      (.cond (.t 18)
       (.seq
        (.reg [⟨some 4, none, [.c (.pv (.bool true))], .v (.mv)⟩] [4])
        .ret)
       .skip)))
    (.reg [⟨some 10, none, [.t 5], .v (.mv)⟩,
      ⟨some 11, none, [.t 10, .c (.pv (.int .i64 1))], .v (.bin .add)⟩,
      ⟨some 5, none, [.t 11], .v (.mv)⟩] [0, 1, 5])))
def g65L0 : ACode := .loop [0, 1, 5] g65B0
theorem g65L0_eq {AP : Nat → Option AFunc} {st : St} : cl AP g65L0 st = after (cl AP g65L0) (cl AP g65B0 (norm (restrict [0, 1, 5] st))) := cl_loop
def g65 : AFunc := ⟨2, 19, [.t 4],
  (.seq
   (.reg [⟨some 4, none, [.c (.pv (.bool false))], .v (.mv)⟩] [0, 1])
   (.seq
    (.seq
     (.reg [⟨some 5, none, [.c (.pv (.int .i64 0))], .v (.mv)⟩] [0, 1, 5])
     (.block 0
      g65L0))
    (.seq
     (.reg [⟨some 4, none, [.c (.pv (.bool false))], .v (.mv)⟩] [4])
     .ret)))⟩

/- typedholes/typedholeslaw3.arrow -/
def g66 : AFunc := ⟨2, 8, [.c 4 5 true],
  (.seq
   (.reg [⟨some 2, none, [.t 0], .box 2 5⟩,
     ⟨some 3, none, [.t 1], .box 3 5⟩,
     ⟨some 4, none, [], .alloc 4 [.int .i64 0, .str [], .int .i64 0, .int .i64 0, .lst []]⟩] [2, 3, 4])
   (.seq
    (.reg [⟨some 5, none, [.t 2], .loadL 2 0 5 true⟩,
      ⟨some 6, none, [.t 3], .loadL 3 0 5 true⟩,
      ⟨some 7, none, [.t 5, .t 6], .callP 69⟩,
      ⟨none, none, [.t 4, .t 7], .storeL 4 0 5⟩] [4])
    .ret))⟩

/- typedholes/typedholesmake.Named -/
def g67 : AFunc := ⟨0, 5, [.t 0],
  (.seq
   (.reg [⟨some 0, none, [.c (.clp [])], .v (.mv)⟩] [])
   (.seq
    (.reg [⟨some 1, none, [.c (.pv (.str [97]))], .callP 106⟩,
      ⟨some 2, none, [.c (.pv (.str [98]))], .callP 106⟩,
      ⟨some 3, none, [.c (.pv (.str [99]))], .callP 106⟩,
      ⟨some 4, none, [.t 1, .t 2, .t 3], .v (.bslice 5)⟩,
      ⟨some 0, none, [.t 4], .v (.mv)⟩] [0])
    .ret))⟩

/- (*typedholes/typedholesmake.Tape).Next -/
def g68 : AFunc := ⟨2, 35, [.t 4],
  (.seq
   (.reg [⟨some 4, none, [.c (.pv (.int .i64 0))], .v (.mv)⟩] [0, 1])
   (.seq
    (.seq
     (.reg [⟨some 5, none, [.t 0], .v (.mv)⟩,
       ⟨some 6, none, [.t 5], .v (.nilchk)⟩,
       ⟨some 7, none, [.t 6], .v (.faddr 1)⟩,
       ⟨some 8, none, [.t 7], .loadS 1 false⟩,
       ⟨some 9, none, [.t 0], .v (.mv)⟩,
       ⟨some 10, none, [.t 9], .v (.nilchk)⟩,
       ⟨some 11, none, [.t 10], .v (.faddr 0)⟩,
       ⟨some 12, none, [.t 11], .loadS 1 false⟩,
       ⟨some 13, none, [.t 12], .v (.len)⟩,
       ⟨some 14, none, [.t 8, .t 13], .v (.bin .geq)⟩] [0, 1, 14])
     (.cond (.t 14)
      (.seq
       (.reg [⟨some 4, none, [.c (.pv (.int .i64 0))], .v (.mv)⟩] [4])
       .ret)
      .skip))
    (.seq
     (.reg [⟨some 15, none, [.t 0], .v (.mv)⟩,
       ⟨some 16, none, [.t 15], .v (.nilchk)⟩,
       ⟨some 17, none, [.t 16], .v (.faddr 1)⟩,
       ⟨some 18, none, [.t 17], .loadS 1 false⟩,
       ⟨some 19, none, [.t 18, .c (.pv (.int .i64 1))], .v (.bin .add)⟩,
       ⟨some 20, none, [.t 15], .v (.nilchk)⟩,
       ⟨some 21, none, [.t 20], .v (.faddr 1)⟩,
       ⟨none, none, [.t 21, .t 19], .storeS 1⟩] [0, 1])
     (.seq
      (.reg [⟨some 22, none, [.t 0], .v (.mv)⟩,
        ⟨some 23, none, [.t 22], .v (.nilchk)⟩,
        ⟨some 24, none, [.t 23], .v (.faddr 0)⟩,
        ⟨some 25, none, [.t 24], .loadS 1 false⟩,
        ⟨some 26, none, [.t 0], .v (.mv)⟩,
        ⟨some 27, none, [.t 26], .v (.nilchk)⟩,
        ⟨some 28, none, [.t 27], .v (.faddr 1)⟩,
        ⟨some 29, none, [.t 28], .loadS 1 false⟩,
        ⟨some 30, none, [.t 29, .c (.pv (.int .i64 1))], .v (.bin .sub)⟩,
        ⟨some 31, none, [.t 25, .t 30], .v (.iaddr 1)⟩,
        ⟨some 32, none, [.t 31], .v (.loadE 1 false)⟩,
        ⟨some 33, none, [.t 1], .v (.mv)⟩,
        ⟨some 34, none, [.t 32, .t 33], .callP 26⟩,
        ⟨some 4, none, [.t 34], .v (.mv)⟩] [4])
      .ret))))⟩

/- typedholes/typedholesref3.Arrow -/
def g69 : AFunc := ⟨2, 9, [.c 4 5 true],
  (.seq
   (.reg [⟨some 2, none, [.t 0], .box 2 5⟩,
     ⟨some 3, none, [.t 1], .box 3 5⟩,
     ⟨some 4, none, [], .alloc 4 [.int .i64 0, .str [], .int .i64 0, .int .i64 0, .lst []]⟩] [2, 3, 4])
   (.seq
    (.reg [⟨some 5, none, [.t 2], .loadL 2 0 5 true⟩,
      ⟨some 6, none, [.t 3], .loadL 3 0 5 true⟩,
      ⟨some 7, none, [.t 5, .t 6], .v (.bslice 5)⟩,
      ⟨some 8, none, [.c (.pv (.str [45, 62])), .t 7], .callP 62⟩,
      ⟨none, none, [.t 4, .t 8], .storeL 4 0 5⟩] [4])
    .ret))⟩

/- typedholes/typedholesmake.Vars -/
def g70B0 : ACode :=
  (.seq
   (.seq
    (.reg [⟨some 5, none, [.t 4], .v (.mv)⟩,
      ⟨some 6, none, [.t 0], .v (.mv)⟩,
      ⟨some 7, none, [.t 5, .t 6], .v (.bin .lss)⟩] [0, 3, 4, 7])
    (.cond (.t 7)
     .skip
     (.exit 0)))
   (.seq
    (.block 1
     (.reg [⟨some 10, none, [.t 3], .v (.mv)⟩,
       ⟨some 11, none, [.t 4], .v (.mv)⟩,
       ⟨some 12, none, [.t 11], .callP 63⟩,
       ⟨some 13, none, [.t 12], .v (.bslice 5)⟩,
       ⟨some 14, none, [.t 10, .t 13], .append 5 64⟩,
       ⟨some 3, none, [.t 14], .v (.mv)⟩] [0, 3, 4]))
    (.reg [⟨some 8, none, [.t 4], .v (.mv)⟩,
      ⟨some 9, none, [.t 8, .c (.pv (.int .i64 1))], .v (.bin .add)⟩,
      ⟨some 4, none, [.t 9], .v (.mv)⟩] [0, 3, 4])))
def g70L0 : ACode := .loop [0, 3, 4] g70B0
theorem g70L0_eq {AP : Nat → Option AFunc} {st : St} : cl AP g70L0 st = after (cl AP g70L0) (cl AP g70B0 (norm (restrict [0, 3, 4] st))) := cl_loop
def g70 : AFunc := ⟨1, 16, [.t 2],
  (.seq
   (.reg [⟨some 2, none, [.c (.clp [])], .v (.mv)⟩] [0])
   (.seq
    (.reg [⟨some 3, none, [.c (.clp [])], .v (.mv)⟩] [0, 3])
    (.seq
     (.seq
      (.reg [⟨some 4, none, [.c (.pv (.int .i64 0))], .v (.mv)⟩] [0, 3, 4])
      (.block 0
       g70L0))
     (.seq
      (.reg [⟨some 15, none, [.t 3], .v (.mv)⟩,
        ⟨some 2, none, [.t 15], .v (.mv)⟩] [2])
      .ret))))⟩

/- typedholes/typedholesref3.Rigid -/
def g71 : AFunc := ⟨2, 8, [.c 4 5 true],
  (.seq
   (.reg [⟨some 4, none, [], .alloc 4 [.int .i64 0, .str [], .int .i64 0, .int .i64 0, .lst []]⟩] [0, 1, 4])
   (.seq
    (.reg [⟨some 5, none, [.t 0], .v (.mv)⟩,
      ⟨some 6, none, [.t 1], .v (.mv)⟩,
      ⟨some 7, none, [.c (.pv (.int .i64 3)), .t 5, .t 6], .v (.build [.int .i64 0, .str [], .int .i64 0, .int .i64 0, .lst []] [(0, 1), (3, 1), (2, 1)])⟩,
      ⟨none, none, [.t 4, .t 7], .storeL 4 0 5⟩] [4])
    .ret))⟩

/- typedholes/typedholesref3.Bound -/
def g72 : AFunc := ⟨1, 5, [.c 2 5 true],
  (.seq
   (.reg [⟨some 2, none, [], .alloc 2 [.int .i64 0, .str [], .int .i64 0, .int .i64 0, .lst []]⟩] [0, 2])
   (.seq
    (.reg [⟨some 3, none, [.t 0], .v (.mv)⟩,
      ⟨some 4, none, [.c (.pv (.int .i64 2)), .t 3], .v (.build [.int .i64 0, .str [], .int .i64 0, .int .i64 0, .lst []] [(0, 1), (2, 1)])⟩,
      ⟨none, none, [.t 2, .t 4], .storeL 2 0 5⟩] [2])
    .ret))⟩

/- typedholes/types.name -/
def g73B0 : ACode :=
  (.seq
   (.reg [⟨some 33, none, [.t 32, .t 31], .v (.bin .lss)⟩] [0, 31, 32, 33])
   (.seq
    (.cond (.t 33)
     .skip
     (.exit 0))
    (.seq
     (.block 1
      (.seq
       (.reg [⟨some 34, none, [.t 32], .v (.mv)⟩,
         ⟨some 7, none, [.t 34], .v (.mv)⟩] [0, 7, 31, 32])
       (.seq
        (.reg [⟨some 35, none, [.t 0], .v (.mv)⟩,
          ⟨some 36, none, [.t 7], .v (.mv)⟩,
          ⟨some 37, none, [.t 35, .t 36], .v (.index)⟩,
          ⟨some 8, none, [.t 37], .v (.mv)⟩] [0, 8, 31, 32])
        (.seq
         (.reg [⟨some 38, none, [.t 8], .v (.mv)⟩,
           ⟨some 39, none, [.t 38, .c (.pv (.int .u8 97))], .v (.bin .geq)⟩,
           ⟨some 40, none, [.t 39], .v (.mv)⟩,
           ⟨some 41, some (40, true), [.t 8], .v (.mv)⟩,
           ⟨some 42, some (40, true), [.t 41, .c (.pv (.int .u8 122))], .v (.bin .leq)⟩,
           ⟨some 43, none, [.t 40, .t 42, .c (.pv (.bool false))], .v (.pick)⟩,
           ⟨some 44, none, [.t 43], .v (.mv)⟩,
           ⟨some 45, some (44, false), [.t 8], .v (.mv)⟩,
           ⟨some 46, some (44, false), [.t 45, .c (.pv (.int .u8 65))], .v (.bin .geq)⟩,
           ⟨some 47, some (44, false), [.t 46], .v (.mv)⟩,
           ⟨some 48, some (47, true), [.t 8], .v (.mv)⟩,
           ⟨some 49, some (47, true), [.t 48, .c (.pv (.int .u8 90))], .v (.bin .leq)⟩,
           ⟨some 50, some (44, false), [.t 47, .t 49, .c (.pv (.bool false))], .v (.pick)⟩,
           ⟨some 51, none, [.t 44, .c (.pv (.bool true)), .t 50], .v (.pick)⟩,
           ⟨some 9, none, [.t 51], .v (.mv)⟩] [0, 8, 9, 31, 32])
         (.seq
          (.reg [⟨some 52, none, [.t 9], .v (.mv)⟩,
            ⟨some 53, none, [.t 52], .v (.un .not)⟩,
            ⟨some 54, none, [.t 53], .v (.mv)⟩,
            ⟨some 55, some (54, true), [.t 8], .v (.mv)⟩,
            ⟨some 56, some (54, true), [.t 55, .c (.pv (.int .u8 48))], .v (.bin .lss)⟩,
            ⟨some 57, some (54, true), [.t 56], .v (.mv)⟩,
            ⟨some 58, some (57, false), [.t 8], .v (.mv)⟩,
            ⟨some 59, some (57, false), [.t 58, .c (.pv (.int .u8 57))], .v (.bin .gtr)⟩,
            ⟨some 60, some (54, true), [.t 57, .c (.pv (.bool true)), .t 59], .v (.pick)⟩,
            ⟨some 61, none, [.t 54, .t 60, .c (.pv (.bool false))], .v (.pick)⟩,
            ⟨some 62, none, [.t 61], .v (.mv)⟩,
            ⟨some 63, some (62, true), [.t 8], .v (.mv)⟩,
            ⟨some 64, some (62, true), [.t 63, .c (.pv (.int .u8 95))], .v (.bin .neq)⟩,
            ⟨some 65, none, [.t 62, .t 64, .c (.pv (.bool false))], .v (.pick)⟩] [0, 31, 32, 65])
          (.cond (.t 65)
           (.seq
            (.reg [⟨some 6, none, [.c (.pv (.bool false))], .v (.mv)⟩] [6])
            .ret)
           .skip))))))
     (.reg [⟨some 66, none, [.t 32, .c (.pv (.int .i64 1))], .v (.bin .add)⟩,
       ⟨some 32, none, [.t 66], .v (.mv)⟩] [0, 31, 32]))))
def g73L0 : ACode := .loop [0, 31, 32] g73B0
theorem g73L0_eq {AP : Nat → Option AFunc} {st : St} : cl AP g73L0 st = after (cl AP g73L0) (cl AP g73B0 (norm (restrict [0, 31, 32] st))) := cl_loop
def g73 : AFunc := ⟨3, 76, [.t 6],
  (.seq
   (.reg [⟨some 6, none, [.c (.pv (.bool false))], .v (.mv)⟩] [0, 1, 2])
   (.seq
    (.seq
     (.reg [⟨some 10, none, [.t 0], .v (.mv)⟩,
       ⟨some 11, none, [.t 10], .v (.lenS)⟩,
       ⟨some 12, none, [.t 11, .c (.pv (.int .i64 1))], .v (.bin .lss)⟩,
       ⟨some 13, none, [.t 12], .v (.mv)⟩,
       ⟨some 14, some (13, false), [.t 0], .v (.mv)⟩,
       ⟨some 15, some (13, false), [.t 14], .v (.lenS)⟩,
       ⟨some 16, some (13, false), [.t 15, .c (.pv (.int .i64 12))], .v (.bin .gtr)⟩,
       ⟨some 17, none, [.t 13, .c (.pv (.bool true)), .t 16], .v (.pick)⟩,
       ⟨some 18, none, [.t 17], .v (.mv)⟩,
       ⟨some 19, some (18, false), [.t 0], .v (.mv)⟩,
       ⟨some 20, some (18, false), [.t 19, .c (.pv (.int .i64 0))], .v (.index)⟩,
       ⟨some 21, some (18, false), [.t 1], .v (.mv)⟩,
       ⟨some 22, some (18, false), [.t 20, .t 21], .v (.bin .lss)⟩,
       ⟨some 23, none, [.t 18, .c (.pv (.bool true)), .t 22], .v (.pick)⟩,
       ⟨some 24, none, [.t 23], .v (.mv)⟩,
       ⟨some 25, some (24, false), [.t 0], .v (.mv)⟩,
       ⟨some 26, some (24, false), [.t 25, .c (.pv (.int .i64 0))], .v (.index)⟩,
       ⟨some 27, some (24, false), [.t 2], .v (.mv)⟩,
       ⟨some 28, some (24, false), [.t 26, .t 27], .v (.bin .gtr)⟩,
       ⟨some 29, none, [.t 24, .c (.pv (.bool true)), .t 28], .v (.pick)⟩] [0, 29])
     (.cond (.t 29)
      (.seq
       (.reg [⟨some 6, none, [.c (.pv (.bool false))], .v (.mv)⟩] [6])
       .ret)
      .skip))
    (.seq
     (.seq
      (.reg [⟨some 30, none, [.t 0], .v (.mv)⟩,
        ⟨some 31, none, [.t 30], .v (.lenS)⟩,
        ⟨some 32, none, [.c (.pv (.int .i64 0))], .v (.mv)⟩] [0, 31, 32])
      (.block 0
       g73L0))
     (.seq
      (.seq
       (.reg [⟨some 67, none, [.t 0], .v (.mv)⟩] [67])
       (.block 2
        (.seq
         (.seq
          (.reg [⟨some 69, none, [.t 67, .c (.pv (.str [100, 97, 116, 97]))], .v (.bin .eql)⟩,
            ⟨some 68, none, [.t 69], .v (.mv)⟩] [67, 68])
          (.cond (.t 68)
           .skip
           (.seq
            (.reg [⟨some 70, none, [.t 67, .c (.pv (.str [108, 101, 116]))], .v (.bin .eql)⟩,
              ⟨some 68, none, [.t 70], .v (.mv)⟩] [67, 68])
            (.cond (.t 68)
             .skip
             (.seq
              (.reg [⟨some 71, none, [.t 67, .c (.pv (.str [114, 101, 99]))], .v (.bin .eql)⟩,
                ⟨some 68, none, [.t 71], .v (.mv)⟩] [67, 68])
              (.cond (.t 68)
               .skip
               (.seq
                (.reg [⟨some 72, none, [.t 67, .c (.pv (.str [105, 110]))], .v (.bin .eql)⟩,
                  ⟨some 68, none, [.t 72], .v (.mv)⟩] [67, 68])
                (.cond (.t 68)
                 .skip
                 (.seq
                  (.reg [⟨some 73, none, [.t 67, .c (.pv (.str [99, 97, 115, 101]))], .v (.bin .eql)⟩,
                    ⟨some 68, none, [.t 73], .v (.mv)⟩] [67, 68])
                  (.cond (.t 68)
                   .skip
                   (.seq
                    (.reg [⟨some 74, none, [.t 67, .c (.pv (.str [111, 102]))], .v (.bin .eql)⟩,
                      ⟨some 68, none, [.t 74], .v (.mv)⟩] [67, 68])
                    (.cond (.t 68)
                     .skip
                     (.reg [⟨some 75, none, [.t 67, .c (.pv (.str [101, 110, 100]))], .v (.bin .eql)⟩,
                       ⟨some 68, none, [.t 75], .v (.mv)⟩] [68])))))))))))))
         (.cond (.t 68)
          (.seq
           (.reg [⟨some 6, none, [.c (.pv (.bool false))], .v (.mv)⟩] [6])
           .ret)
          .skip))))
      (.seq
       (.reg [⟨some 6, none, [.c (.pv (.bool true))], .v (.mv)⟩] [6])
       .ret)))))⟩

/- typedholes/types.constructor -/
def g74 : AFunc := ⟨2, 20, [.t 4],
  (.seq
   (.reg [⟨some 4, none, [.c (.pv (.bool false))], .v (.mv)⟩] [0, 1])
   (.seq
    (.seq
     (.reg [⟨some 5, none, [.t 0], .v (.mv)⟩] [0, 1, 5])
     (.block 0
      (.seq
       (.reg [⟨some 7, none, [.t 5, .c (.pv (.str [45, 62]))], .v (.bin .eql)⟩,
         ⟨some 6, none, [.t 7], .v (.mv)⟩] [0, 1, 5, 6])
       (.cond (.t 6)
        (.seq
         (.reg [⟨some 8, none, [.t 1], .v (.mv)⟩,
           ⟨some 9, none, [.t 8, .c (.pv (.int .i64 2))], .v (.bin .eql)⟩,
           ⟨some 4, none, [.t 9], .v (.mv)⟩] [4])
         .ret)
        (.seq
         (.reg [⟨some 11, none, [.t 5, .c (.pv (.str [73, 110, 116]))], .v (.bin .eql)⟩,
           ⟨some 10, none, [.t 11], .v (.mv)⟩] [0, 1, 10])
         (.cond (.t 10)
          (.seq
           (.reg [⟨some 12, none, [.t 1], .v (.mv)⟩,
             ⟨some 13, none, [.t 12, .c (.pv (.int .i64 0))], .v (.bin .eql)⟩,
             ⟨some 4, none, [.t 13], .v (.mv)⟩] [4])
           .ret)
          .skip))))))
    (.seq
     (.reg [⟨some 14, none, [.t 0], .v (.mv)⟩,
       ⟨some 15, none, [.t 14, .c (.pv (.int .u8 65)), .c (.pv (.int .u8 90))], .callP 73⟩,
       ⟨some 16, none, [.t 15], .v (.mv)⟩,
       ⟨some 17, some (16, true), [.t 1], .v (.mv)⟩,
       ⟨some 18, some (16, true), [.t 17, .c (.pv (.int .i64 4))], .v (.bin .leq)⟩,
       ⟨some 19, none, [.t 16, .t 18, .c (.pv (.bool false))], .v (.pick)⟩,
       ⟨some 4, none, [.t 19], .v (.mv)⟩] [4])
     .ret)))⟩

/- slices.ContainsFunc[[]typedholes/api.Type,typedholes/api.Type] -/
def g75 : AFunc := ⟨2, 9, [.t 4],
  (.seq
   (.reg [⟨some 4, none, [.c (.pv (.bool false))], .v (.mv)⟩] [0, 1])
   (.seq
    (.reg [⟨some 5, none, [.t 0], .v (.mv)⟩,
      ⟨some 6, none, [.t 1], .v (.mv)⟩,
      ⟨some 7, none, [.t 5, .t 6], .callI 107 []⟩,
      ⟨some 8, none, [.t 7, .c (.pv (.int .i64 0))], .v (.bin .geq)⟩,
      ⟨some 4, none, [.t 8], .v (.mv)⟩] [4])
    .ret))⟩

/- typedholes/types.invalid -/
def g76 : AFunc := ⟨1, 6, [.t 2],
  (.seq
   (.reg [⟨some 1, none, [.t 0], .box 1 5⟩,
     ⟨some 2, none, [.c (.pv (.bool false))], .v (.mv)⟩] [1])
   (.seq
    (.reg [⟨some 3, none, [.t 1], .loadL 1 0 5 true⟩,
      ⟨some 4, none, [.t 3], .callP 29⟩,
      ⟨some 5, none, [.t 4], .v (.un .not)⟩,
      ⟨some 2, none, [.t 5], .v (.mv)⟩] [2])
    .ret))⟩

/- typedholes/typedholesref2.Lower -/
def g77 : AFunc := ⟨1, 20, [.t 2],
  (.seq
   (.reg [⟨some 2, none, [.c (.pv (.bool false))], .v (.mv)⟩] [0])
   (.seq
    (.reg [⟨some 3, none, [.t 0], .v (.mv)⟩,
      ⟨some 4, none, [.t 3], .callP 108⟩,
      ⟨some 5, none, [.t 4], .v (.mv)⟩,
      ⟨some 6, some (5, true), [.t 0], .v (.mv)⟩,
      ⟨some 7, some (5, true), [.t 6, .c (.pv (.int .i64 0))], .v (.index)⟩,
      ⟨some 8, some (5, true), [.t 7], .callP 109⟩,
      ⟨some 9, none, [.t 5, .t 8, .c (.pv (.bool false))], .v (.pick)⟩,
      ⟨some 10, none, [.t 9], .v (.mv)⟩,
      ⟨some 11, some (10, true), [.t 0], .v (.mv)⟩,
      ⟨some 12, some (10, true), [.t 11], .v (.lenS)⟩,
      ⟨some 13, some (10, true), [.t 12, .c (.pv (.int .i64 12))], .v (.bin .leq)⟩,
      ⟨some 14, none, [.t 10, .t 13, .c (.pv (.bool false))], .v (.pick)⟩,
      ⟨some 15, none, [.t 14], .v (.mv)⟩,
      ⟨some 16, some (15, true), [.t 0], .v (.mv)⟩,
      ⟨some 17, some (15, true), [.t 16], .callP 110⟩,
      ⟨some 18, some (15, true), [.t 17], .v (.un .not)⟩,
      ⟨some 19, none, [.t 15, .t 18, .c (.pv (.bool false))], .v (.pick)⟩,
      ⟨some 2, none, [.t 19], .v (.mv)⟩] [2])
    .ret))⟩

/- typedholes/typedholesref2.Upper -/
def g78 : AFunc := ⟨1, 15, [.t 2],
  (.seq
   (.reg [⟨some 2, none, [.c (.pv (.bool false))], .v (.mv)⟩] [0])
   (.seq
    (.reg [⟨some 3, none, [.t 0], .v (.mv)⟩,
      ⟨some 4, none, [.t 3], .callP 108⟩,
      ⟨some 5, none, [.t 4], .v (.mv)⟩,
      ⟨some 6, some (5, true), [.t 0], .v (.mv)⟩,
      ⟨some 7, some (5, true), [.t 6, .c (.pv (.int .i64 0))], .v (.index)⟩,
      ⟨some 8, some (5, true), [.t 7], .callP 111⟩,
      ⟨some 9, none, [.t 5, .t 8, .c (.pv (.bool false))], .v (.pick)⟩,
      ⟨some 10, none, [.t 9], .v (.mv)⟩,
      ⟨some 11, some (10, true), [.t 0], .v (.mv)⟩,
      ⟨some 12, some (10, true), [.t 11], .v (.lenS)⟩,
      ⟨some 13, some (10, true), [.t 12, .c (.pv (.int .i64 12))], .v (.bin .leq)⟩,
      ⟨some 14, none, [.t 10, .t 13, .c (.pv (.bool false))], .v (.pick)⟩,
      ⟨some 2, none, [.t 14], .v (.mv)⟩] [2])
    .ret))⟩

/- typedholes/typedholesmake.all -/
def g79 : AFunc := ⟨0, 9, [.t 0],
  (.seq
   (.reg [⟨some 0, none, [.c (.clp [])], .v (.mv)⟩] [])
   (.seq
    (.reg [⟨some 4, none, [.c (.pv (.str [100, 97, 116, 97, 32, 66, 111, 111, 108, 32, 61, 32, 84, 114, 117, 101, 32, 124, 32, 70, 97, 108, 115, 101, 59, 32, 100, 97, 116, 97, 32, 79, 112, 116, 105, 111, 110, 32, 97, 32, 61, 32, 78, 111, 110, 101, 32, 124, 32, 83, 111, 109, 101, 32, 97, 59, 32, 100, 97, 116, 97, 32, 76, 105, 115, 116, 32, 97, 32, 61, 32, 78, 105, 108, 32, 124, 32, 67, 111, 110, 115, 32, 97, 32, 40, 76, 105, 115, 116, 32, 97, 41, 59, 100, 97, 116, 97, 32, 80, 97, 105, 114, 32, 97, 32, 98, 32, 61, 32, 80, 97, 105, 114, 32, 97, 32, 98, 59, 32, 100, 97, 116, 97, 32, 78, 97, 116, 32, 61, 32, 90, 101, 114, 111, 32, 124, 32, 83, 117, 99, 99, 32, 78, 97, 116, 59, 32, 100, 97, 116, 97, 32, 70, 117, 110, 32, 97, 32, 98, 32, 61, 32, 70, 117, 110, 32, 40, 97, 32, 45, 62, 32, 98, 41, 59, 32, 100, 97, 116, 97, 32, 84, 119, 111, 32, 97, 32, 61, 32, 66, 111, 116, 104, 32, 97, 32, 97, 32, 124, 32, 79, 110, 101, 32, 40, 79, 112, 116, 105, 111, 110, 32, 97, 41, 59]))], .callP 112⟩,
      ⟨some 3, none, [.t 4], .v (.mv)⟩,
      ⟨some 5, none, [.t 3], .v (.ext 0)⟩,
      ⟨some 6, none, [.t 3], .v (.ext 1)⟩,
      ⟨some 1, none, [], .alloc 1 [.lst [], .lst []]⟩,
      ⟨some 2, none, [], .alloc 2 [.int .i64 0, .int .i64 0]⟩,
      ⟨none, none, [.t 1, .t 5], .storeL 1 0 2⟩,
      ⟨none, none, [.t 2, .t 6], .storeL 2 0 2⟩] [1])
    (.seq
     (.reg [⟨some 7, none, [.t 1], .v (.faddr 0)⟩,
       ⟨some 8, none, [.t 7], .loadL 1 0 1 false⟩,
       ⟨some 0, none, [.t 8], .v (.mv)⟩] [0])
     .ret)))⟩

/- cmp.Or[int] -/
def g80B0 : ACode :=
  (.seq
   (.reg [⟨some 9, none, [.t 8, .t 7], .v (.bin .lss)⟩] [3, 6, 7, 8, 9])
   (.seq
    (.cond (.t 9)
     .skip
     (.exit 0))
    (.seq
     (.block 1
      (.seq
       (.reg [⟨some 10, none, [.t 6, .t 8], .v (.iaddr 1)⟩,
         ⟨some 11, none, [.t 10], .v (.loadE 1 false)⟩,
         ⟨some 5, none, [.t 11], .v (.mv)⟩] [3, 5, 6, 7, 8])
       (.seq
        (.reg [⟨some 12, none, [.t 5], .v (.mv)⟩,
          ⟨some 13, none, [.t 3], .v (.mv)⟩,
          ⟨some 14, none, [.t 12, .t 13], .v (.bin .neq)⟩] [3, 5, 6, 7, 8, 14])
        (.cond (.t 14)
         (.seq
          (.reg [⟨some 15, none, [.t 5], .v (.mv)⟩,
            ⟨some 2, none, [.t 15], .v (.mv)⟩] [2])
          .ret)
         .skip))))
     (.reg [⟨some 16, none, [.t 8, .c (.pv (.int .i64 1))], .v (.bin .add)⟩,
       ⟨some 8, none, [.t 16], .v (.mv)⟩] [3, 6, 7, 8]))))
def g80L0 : ACode := .loop [3, 6, 7, 8] g80B0
theorem g80L0_eq {AP : Nat → Option AFunc} {st : St} : cl AP g80L0 st = after (cl AP g80L0) (cl AP g80B0 (norm (restrict [3, 6, 7, 8] st))) := cl_loop
def g80 : AFunc := ⟨1, 18, [.t 2],
  (.seq
   (.reg [⟨some 2, none, [.c (.pv (.int .i64 0))], .v (.mv)⟩] [0])
   (.seq
    (.reg [⟨some 3, none, [.c (.pv (.int .i64 0))], .v (.mv)⟩] [0, 3])
    (.seq
     (.seq
      (.reg [⟨some 6, none, [.t 0], .v (.mv)⟩,
        ⟨some 7, none, [.t 6], .v (.len)⟩,
        ⟨some 8, none, [.c (.pv (.int .i64 0))], .v (.mv)⟩] [3, 6, 7, 8])
      (.block 0
       g80L0))
     (.seq
      (.reg [⟨some 17, none, [.t 3], .v (.mv)⟩,
        ⟨some 2, none, [.t 17], .v (.mv)⟩] [2])
      .ret))))⟩

/- cmp.Compare[int] -/
def g81 : AFunc := ⟨2, 20, [.t 4],
  (.seq
   (.reg [⟨some 4, none, [.c (.pv (.int .i64 0))], .v (.mv)⟩] [0, 1])
   (.seq
    (.reg [⟨some 7, none, [.t 0], .v (.mv)⟩,
      ⟨some 8, none, [.t 7], .callP 113⟩,
      ⟨some 5, none, [.t 8], .v (.mv)⟩] [0, 1, 5])
    (.seq
     (.reg [⟨some 9, none, [.t 1], .v (.mv)⟩,
       ⟨some 10, none, [.t 9], .callP 113⟩,
       ⟨some 6, none, [.t 10], .v (.mv)⟩] [0, 1, 5, 6])
     (.seq
      (.seq
       (.reg [⟨some 11, none, [.t 5], .v (.mv)⟩] [0, 1, 6, 11])
       (.cond (.t 11)
        (.seq
         (.seq
          (.reg [⟨some 12, none, [.t 6], .v (.mv)⟩] [12])
          (.cond (.t 12)
           (.seq
            (.reg [⟨some 4, none, [.c (.pv (.int .i64 0))], .v (.mv)⟩] [4])
            .ret)
           .skip))
         (.seq
          (.reg [⟨some 4, none, [.c (.pv (.int .i64 (-1)))], .v (.mv)⟩] [4])
          .ret))
        .skip))
      (.seq
       (.seq
        (.reg [⟨some 13, none, [.t 6], .v (.mv)⟩] [0, 1, 13])
        (.cond (.t 13)
         (.seq
          (.reg [⟨some 4, none, [.c (.pv (.int .i64 1))], .v (.mv)⟩] [4])
          .ret)
         .skip))
       (.seq
        (.seq
         (.reg [⟨some 14, none, [.t 0], .v (.mv)⟩,
           ⟨some 15, none, [.t 1], .v (.mv)⟩,
           ⟨some 16, none, [.t 14, .t 15], .v (.bin .lss)⟩] [0, 1, 16])
         (.cond (.t 16)
          (.seq
           (.reg [⟨some 4, none, [.c (.pv (.int .i64 (-1)))], .v (.mv)⟩] [4])
           .ret)
          .skip))
        (.seq
         (.seq
          (.reg [⟨some 17, none, [.t 0], .v (.mv)⟩,
            ⟨some 18, none, [.t 1], .v (.mv)⟩,
            ⟨some 19, none, [.t 17, .t 18], .v (.bin .gtr)⟩] [19])
          (.cond (.t 19)
           (.seq
            (.reg [⟨some 4, none, [.c (.pv (.int .i64 1))], .v (.mv)⟩] [4])
            .ret)
           .skip))
         (.seq
          (.reg [⟨some 4, none, [.c (.pv (.int .i64 0))], .v (.mv)⟩] [4])
          .ret))))))))⟩

/- cmp.Compare[string] -/
def g82 : AFunc := ⟨2, 20, [.t 4],
  (.seq
   (.reg [⟨some 4, none, [.c (.pv (.int .i64 0))], .v (.mv)⟩] [0, 1])
   (.seq
    (.reg [⟨some 7, none, [.t 0], .v (.mv)⟩,
      ⟨some 8, none, [.t 7], .callP 114⟩,
      ⟨some 5, none, [.t 8], .v (.mv)⟩] [0, 1, 5])
    (.seq
     (.reg [⟨some 9, none, [.t 1], .v (.mv)⟩,
       ⟨some 10, none, [.t 9], .callP 114⟩,
       ⟨some 6, none, [.t 10], .v (.mv)⟩] [0, 1, 5, 6])
     (.seq
      (.seq
       (.reg [⟨some 11, none, [.t 5], .v (.mv)⟩] [0, 1, 6, 11])
       (.cond (.t 11)
        (.seq
         (.seq
          (.reg [⟨some 12, none, [.t 6], .v (.mv)⟩] [12])
          (.cond (.t 12)
           (.seq
            (.reg [⟨some 4, none, [.c (.pv (.int .i64 0))], .v (.mv)⟩] [4])
            .ret)
           .skip))
         (.seq
          (.reg [⟨some 4, none, [.c (.pv (.int .i64 (-1)))], .v (.mv)⟩] [4])
          .ret))
        .skip))
      (.seq
       (.seq
        (.reg [⟨some 13, none, [.t 6], .v (.mv)⟩] [0, 1, 13])
        (.cond (.t 13)
         (.seq
          (.reg [⟨some 4, none, [.c (.pv (.int .i64 1))], .v (.mv)⟩] [4])
          .ret)
         .skip))
       (.seq
        (.seq
         (.reg [⟨some 14, none, [.t 0], .v (.mv)⟩,
           ⟨some 15, none, [.t 1], .v (.mv)⟩,
           ⟨some 16, none, [.t 14, .t 15], .v (.bin .lss)⟩] [0, 1, 16])
         (.cond (.t 16)
          (.seq
           (.reg [⟨some 4, none, [.c (.pv (.int .i64 (-1)))], .v (.mv)⟩] [4])
           .ret)
          .skip))
        (.seq
         (.seq
          (.reg [⟨some 17, none, [.t 0], .v (.mv)⟩,
            ⟨some 18, none, [.t 1], .v (.mv)⟩,
            ⟨some 19, none, [.t 17, .t 18], .v (.bin .gtr)⟩] [19])
          (.cond (.t 19)
           (.seq
            (.reg [⟨some 4, none, [.c (.pv (.int .i64 1))], .v (.mv)⟩] [4])
            .ret)
           .skip))
         (.seq
          (.reg [⟨some 4, none, [.c (.pv (.int .i64 0))], .v (.mv)⟩] [4])
          .ret))))))))⟩

/- slices.CompareFunc[[]typedholes/api.Type,[]typedholes/api.Type,typedholes/api.Type,typedholes/api.Type] -/
def g83B0 : ACode :=
  (.seq
   (.reg [⟨some 14, none, [.t 13, .t 12], .v (.bin .lss)⟩] [0, 1, 2, 11, 12, 13, 14])
   (.seq
    (.cond (.t 14)
     .skip
     (.exit 0))
    (.seq
     (.block 1
      (.seq
       (.reg [⟨some 15, none, [.t 13], .v (.mv)⟩,
         ⟨some 16, none, [.t 11, .t 13], .v (.iaddr 5)⟩,
         ⟨some 17, none, [.t 16], .loadS 5 true⟩,
         ⟨some 8, none, [], .alloc 8 [.int .i64 0, .str [], .int .i64 0, .int .i64 0, .lst []]⟩,
         ⟨some 7, none, [.t 15], .v (.mv)⟩,
         ⟨none, none, [.t 8, .t 17], .storeL 8 0 5⟩] [0, 1, 2, 7, 8, 11, 12, 13])
       (.seq
        (.seq
         (.reg [⟨some 18, none, [.t 7], .v (.mv)⟩,
           ⟨some 19, none, [.t 1], .v (.mv)⟩,
           ⟨some 20, none, [.t 19], .v (.len)⟩,
           ⟨some 21, none, [.t 18, .t 20], .v (.bin .geq)⟩] [0, 1, 2, 7, 8, 11, 12, 13, 21])
         (.cond (.t 21)
          (.seq
           (.reg [⟨some 6, none, [.c (.pv (.int .i64 1))], .v (.mv)⟩] [6])
           .ret)
          .skip))
        (.seq
         (.reg [⟨some 22, none, [.t 1], .v (.mv)⟩,
           ⟨some 23, none, [.t 7], .v (.mv)⟩,
           ⟨some 24, none, [.t 22, .t 23], .v (.iaddr 5)⟩,
           ⟨some 25, none, [.t 24], .loadS 5 true⟩,
           ⟨some 9, none, [], .alloc 9 [.int .i64 0, .str [], .int .i64 0, .int .i64 0, .lst []]⟩,
           ⟨none, none, [.t 9, .t 25], .storeL 9 0 5⟩] [0, 1, 2, 8, 9, 11, 12, 13])
         (.seq
          (.reg [⟨some 26, none, [.t 2], .v (.mv)⟩,
            ⟨some 27, none, [.t 8], .loadL 8 0 5 true⟩,
            ⟨some 28, none, [.t 9], .loadL 9 0 5 true⟩,
            ⟨some 29, none, [.t 26, .t 27, .t 28], .callV⟩,
            ⟨some 10, none, [.t 29], .v (.mv)⟩] [0, 1, 2, 10, 11, 12, 13])
          (.seq
           (.reg [⟨some 30, none, [.t 10], .v (.mv)⟩,
             ⟨some 31, none, [.t 30, .c (.pv (.int .i64 0))], .v (.bin .neq)⟩] [0, 1, 2, 10, 11, 12, 13, 31])
           (.cond (.t 31)
            (.seq
             (.reg [⟨some 32, none, [.t 10], .v (.mv)⟩,
               ⟨some 6, none, [.t 32], .v (.mv)⟩] [6])
             .ret)
            .skip)))))))
     (.reg [⟨some 33, none, [.t 13, .c (.pv (.int .i64 1))], .v (.bin .add)⟩,
       ⟨some 13, none, [.t 33], .v (.mv)⟩] [0, 1, 2, 11, 12, 13]))))
def g83L0 : ACode := .loop [0, 1, 2, 11, 12, 13] g83B0
theorem g83L0_eq {AP : Nat → Option AFunc} {st : St} : cl AP g83L0 st = after (cl AP g83L0) (cl AP g83B0 (norm (restrict [0, 1, 2, 11, 12, 13] st))) := cl_loop
def g83 : AFunc := ⟨3, 39, [.t 6],
  (.seq
   (.reg [⟨some 6, none, [.c (.pv (.int .i64 0))], .v (.mv)⟩] [0, 1, 2])
   (.seq
    (.seq
     (.reg [⟨some 11, none, [.t 0], .v (.mv)⟩,
       ⟨some 12, none, [.t 11], .v (.len)⟩,
       ⟨some 13, none, [.c (.pv (.int .i64 0))], .v (.mv)⟩] [0, 1, 2, 11, 12, 13])
     (.block 0
      g83L0))
    (.seq
     (.seq
      (.reg [⟨some 34, none, [.t 0], .v (.mv)⟩,
        ⟨some 35, none, [.t 34], .v (.len)⟩,
        ⟨some 36, none, [.t 1], .v (.mv)⟩,
        ⟨some 37, none, [.t 36], .v (.len)⟩,
        ⟨some 38, none, [.t 35, .t 37], .v (.bin .lss)⟩] [38])
      (.cond (.t 38)
       (.seq
        (.reg [⟨some 6, none, [.c (.pv (.int .i64 (-1)))], .v (.mv)⟩] [6])
        .ret)
       .skip))
     (.seq
      (.reg [⟨some 6, none, [.c (.pv (.int .i64 0))], .v (.mv)⟩] [6])
      .ret))))⟩

/- typedholes/typedholesref3.order -/
def g84 : AFunc := ⟨2, 11, [.t 4],
  (.seq
   (.reg [⟨some 4, none, [.c (.pv (.int .i64 0))], .v (.mv)⟩] [0, 1])
   (.seq
    (.seq
     (.reg [⟨some 5, none, [.t 0], .v (.mv)⟩,
       ⟨some 6, none, [.t 1], .v (.mv)⟩,
       ⟨some 7, none, [.t 5, .t 6], .v (.bin .lss)⟩] [0, 1, 7])
     (.cond (.t 7)
      (.seq
       (.reg [⟨some 4, none, [.c (.pv (.int .i64 (-1)))], .v (.mv)⟩] [4])
       .ret)
      .skip))
    (.seq
     (.seq
      (.reg [⟨some 8, none, [.t 0], .v (.mv)⟩,
        ⟨some 9, none, [.t 1], .v (.mv)⟩,
        ⟨some 10, none, [.t 8, .t 9], .v (.bin .gtr)⟩] [10])
      (.cond (.t 10)
       (.seq
        (.reg [⟨some 4, none, [.c (.pv (.int .i64 1))], .v (.mv)⟩] [4])
        .ret)
       .skip))
     (.seq
      (.reg [⟨some 4, none, [.c (.pv (.int .i64 0))], .v (.mv)⟩] [4])
      .ret))))⟩

/- slices.ContainsFunc[[]int,int] -/
def g85 : AFunc := ⟨2, 9, [.t 4],
  (.seq
   (.reg [⟨some 4, none, [.c (.pv (.bool false))], .v (.mv)⟩] [0, 1])
   (.seq
    (.reg [⟨some 5, none, [.t 0], .v (.mv)⟩,
      ⟨some 6, none, [.t 1], .v (.mv)⟩,
      ⟨some 7, none, [.t 5, .t 6], .callI 115 []⟩,
      ⟨some 8, none, [.t 7, .c (.pv (.int .i64 0))], .v (.bin .geq)⟩,
      ⟨some 4, none, [.t 8], .v (.mv)⟩] [4])
    .ret))⟩

/- typedholes/subst.Equal$1 -/
def g86 : AFunc := ⟨1, 15, [.t 4],
  (.seq
   (.reg [⟨some 4, none, [.c (.pv (.bool false))], .v (.mv)⟩] [0, 1, 2])
   (.seq
    (.reg [⟨some 5, none, [.t 1], .loadS 1 false⟩,
      ⟨some 6, none, [.t 0], .v (.mv)⟩,
      ⟨some 7, none, [.t 6], .callP 87⟩,
      ⟨some 8, none, [.t 5, .t 7], .callP 21⟩,
      ⟨some 9, none, [.t 2], .loadS 1 false⟩,
      ⟨some 10, none, [.t 0], .v (.mv)⟩,
      ⟨some 11, none, [.t 10], .callP 87⟩,
      ⟨some 12, none, [.t 9, .t 11], .callP 21⟩,
      ⟨some 13, none, [.t 8, .t 12], .callP 33⟩,
      ⟨some 14, none, [.t 13], .v (.un .not)⟩,
      ⟨some 4, none, [.t 14], .v (.mv)⟩] [4])
    .ret))⟩

/- typedholes/types.Var -/
def g87 : AFunc := ⟨1, 5, [.c 2 5 true],
  (.seq
   (.reg [⟨some 2, none, [], .alloc 2 [.int .i64 0, .str [], .int .i64 0, .int .i64 0, .lst []]⟩] [0, 2])
   (.seq
    (.reg [⟨some 3, none, [.t 0], .v (.mv)⟩,
      ⟨some 4, none, [.c (.pv (.int .i64 1)), .t 3], .v (.build [.int .i64 0, .str [], .int .i64 0, .int .i64 0, .lst []] [(0, 1), (2, 1)])⟩,
      ⟨none, none, [.t 2, .t 4], .storeL 2 0 5⟩] [2])
    .ret))⟩

/- typedholes/typedholesmake.types -/
def g88B0 : ACode :=
  (.seq
   (.seq
    (.reg [⟨some 8, none, [.t 5], .v (.mv)⟩,
      ⟨some 9, none, [.t 2], .v (.faddr 4)⟩,
      ⟨some 10, none, [.t 9], .loadL 2 4 1 false⟩,
      ⟨some 11, none, [.t 10], .v (.len)⟩,
      ⟨some 12, none, [.t 8, .t 11], .v (.bin .lss)⟩,
      ⟨some 13, none, [.t 12], .v (.mv)⟩,
      ⟨some 14, some (13, true), [.t 1], .v (.mv)⟩,
      ⟨some 15, some (13, true), [.t 14, .c (.pv (.int .i64 0))], .v (.bin .gtr)⟩,
      ⟨some 16, none, [.t 13, .t 15, .c (.pv (.bool false))], .v (.pick)⟩] [1, 2, 5, 16])
    (.cond (.t 16)
     .skip
     (.exit 0)))
   (.seq
    (.block 1
     (.reg [⟨some 19, none, [.t 2], .v (.faddr 4)⟩,
       ⟨some 20, none, [.t 19], .loadL 2 4 1 false⟩,
       ⟨some 21, none, [.t 5], .v (.mv)⟩,
       ⟨some 22, none, [.t 20, .t 21], .v (.iaddr 5)⟩,
       ⟨some 23, none, [.t 22], .v (.loadE 5 true)⟩,
       ⟨some 24, none, [.t 1], .v (.mv)⟩,
       ⟨some 25, none, [.t 23, .t 24], .callP 88⟩,
       ⟨some 1, none, [.t 25], .v (.mv)⟩] [1, 2, 5]))
    (.reg [⟨some 17, none, [.t 5], .v (.mv)⟩,
      ⟨some 18, none, [.t 17, .c (.pv (.int .i64 1))], .v (.bin .add)⟩,
      ⟨some 5, none, [.t 18], .v (.mv)⟩] [1, 2, 5])))
def g88L0 : ACode := .loop [1, 2, 5] g88B0
theorem g88L0_eq {AP : Nat → Option AFunc} {st : St} : cl AP g88L0 st = after (cl AP g88L0) (cl AP g88B0 (norm (restrict [1, 2, 5] st))) := cl_loop
def g88 : AFunc := ⟨2, 28, [.t 4],
  (.seq
   (.reg [⟨some 2, none, [.t 0], .box 2 5⟩,
     ⟨some 4, none, [.c (.pv (.int .i64 0))], .v (.mv)⟩] [1, 2])
   (.seq
    (.reg [⟨some 6, none, [.t 1], .v (.mv)⟩,
      ⟨some 7, none, [.t 6, .c (.pv (.int .i64 1))], .v (.bin .sub)⟩,
      ⟨some 1, none, [.t 7], .v (.mv)⟩] [1, 2])
    (.seq
     (.seq
      (.reg [⟨some 5, none, [.c (.pv (.int .i64 0))], .v (.mv)⟩] [1, 2, 5])
      (.block 0
       g88L0))
     (.seq
      (.reg [⟨some 26, none, [.t 1], .v (.mv)⟩,
        ⟨some 27, none, [.t 26, .c (.pv (.int .i64 0))], .v (.mx)⟩,
        ⟨some 4, none, [.t 27], .v (.mv)⟩] [4])
      .ret))))⟩

/- slices.ContainsFunc[[]typedholes/api.Assign,typedholes/api.Assign] -/
def g89 : AFunc := ⟨2, 9, [.t 4],
  (.seq
   (.reg [⟨some 4, none, [.c (.pv (.bool false))], .v (.mv)⟩] [0, 1])
   (.seq
    (.reg [⟨some 5, none, [.t 0], .v (.mv)⟩,
      ⟨some 6, none, [.t 1], .v (.mv)⟩,
      ⟨some 7, none, [.t 5, .t 6], .callI 104 []⟩,
      ⟨some 8, none, [.t 7, .c (.pv (.int .i64 0))], .v (.bin .geq)⟩,
      ⟨some 4, none, [.t 8], .v (.mv)⟩] [4])
    .ret))⟩

/- typedholes/subst.Idempotent$1 -/
def g90 : AFunc := ⟨1, 16, [.t 3],
  (.seq
   (.reg [⟨some 2, none, [.t 0], .box 2 6⟩,
     ⟨some 3, none, [.c (.pv (.bool false))], .v (.mv)⟩] [1, 2])
   (.seq
    (.reg [⟨some 5, none, [.t 1], .loadS 1 false⟩,
      ⟨some 6, none, [.t 2], .v (.faddr 0)⟩,
      ⟨some 7, none, [.t 6], .loadL 2 0 1 false⟩,
      ⟨some 8, none, [.t 7], .callP 87⟩,
      ⟨some 9, none, [.t 5, .t 8], .callP 21⟩,
      ⟨some 4, none, [], .alloc 4 [.int .i64 0, .str [], .int .i64 0, .int .i64 0, .lst []]⟩,
      ⟨none, none, [.t 4, .t 9], .storeL 4 0 5⟩] [1, 4])
    (.seq
     (.reg [⟨some 10, none, [.t 1], .loadS 1 false⟩,
       ⟨some 11, none, [.t 4], .loadL 4 0 5 true⟩,
       ⟨some 12, none, [.t 10, .t 11], .callP 21⟩,
       ⟨some 13, none, [.t 4], .loadL 4 0 5 true⟩,
       ⟨some 14, none, [.t 12, .t 13], .callP 33⟩,
       ⟨some 15, none, [.t 14], .v (.un .not)⟩,
       ⟨some 3, none, [.t 15], .v (.mv)⟩] [3])
     .ret)))⟩

/- typedholes/types.rebuild -/
def g91B0 : ACode :=
  (.seq
   (.reg [⟨some 23, none, [.t 22, .t 21], .v (.bin .lss)⟩] [1, 2, 4, 5, 20, 21, 22, 23])
   (.seq
    (.cond (.t 23)
     .skip
     (.exit 0))
    (.seq
     (.block 1
      (.seq
       (.reg [⟨some 24, none, [.t 22], .v (.mv)⟩,
         ⟨some 25, none, [.t 20, .t 22], .v (.iaddr 5)⟩,
         ⟨some 26, none, [.t 25], .loadS 5 true⟩,
         ⟨some 7, none, [], .alloc 7 [.int .i64 0, .str [], .int .i64 0, .int .i64 0, .lst []]⟩,
         ⟨some 6, none, [.t 24], .v (.mv)⟩,
         ⟨none, none, [.t 7, .t 26], .storeL 7 0 5⟩] [1, 2, 4, 5, 6, 7, 20, 21, 22])
       (.reg [⟨some 27, none, [.t 5], .v (.mv)⟩,
         ⟨some 28, none, [.t 6], .v (.mv)⟩,
         ⟨some 29, none, [.t 7], .loadL 7 0 5 true⟩,
         ⟨some 30, none, [.t 1], .v (.mv)⟩,
         ⟨some 31, none, [.t 29, .t 30], .callI 91 []⟩,
         ⟨some 32, none, [.t 27, .t 28], .v (.iaddr 5)⟩,
         ⟨none, none, [.t 32, .t 31], .storeS 5⟩] [1, 2, 4, 5, 20, 21, 22])))
     (.reg [⟨some 33, none, [.t 22, .c (.pv (.int .i64 1))], .v (.bin .add)⟩,
       ⟨some 22, none, [.t 33], .v (.mv)⟩] [1, 2, 4, 5, 20, 21, 22]))))
def g91L0 : ACode := .loop [1, 2, 4, 5, 20, 21, 22] g91B0
theorem g91L0_eq {AP : Nat → Option AFunc} {st : St} : cl AP g91L0 st = after (cl AP g91L0) (cl AP g91B0 (norm (restrict [1, 2, 4, 5, 20, 21, 22] st))) := cl_loop
def g91 : AFunc := ⟨2, 37, [.c 4 5 true],
  (.seq
   (.reg [⟨some 2, none, [.t 0], .box 2 5⟩,
     ⟨some 4, none, [], .alloc 4 [.int .i64 0, .str [], .int .i64 0, .int .i64 0, .lst []]⟩] [1, 2, 4])
   (.seq
    (.seq
     (.reg [⟨some 8, none, [.t 2], .v (.faddr 4)⟩,
       ⟨some 9, none, [.t 8], .loadL 2 4 1 false⟩,
       ⟨some 10, none, [.t 9], .v (.len)⟩,
       ⟨some 11, none, [.t 10, .c (.pv (.int .i64 0))], .v (.bin .eql)⟩] [1, 2, 4, 11])
     (.cond (.t 11)
      (.seq
       (.reg [⟨some 12, none, [.t 1], .v (.mv)⟩,
         ⟨some 13, none, [.t 2], .loadL 2 0 5 true⟩,
         ⟨some 14, none, [.t 12, .t 13], .callV⟩,
         ⟨none, none, [.t 4, .t 14], .storeL 4 0 5⟩] [4])
       .ret)
      .skip))
    (.seq
     (.reg [⟨some 15, none, [.t 2], .v (.faddr 4)⟩,
       ⟨some 16, none, [.t 15], .loadL 2 4 1 false⟩,
       ⟨some 17, none, [.t 16], .v (.len)⟩,
       ⟨some 18, none, [.t 17, .t 17], .makeS 5 64 true [.int .i64 0, .str [], .int .i64 0, .int .i64 0, .lst []]⟩,
       ⟨some 5, none, [.t 18], .v (.mv)⟩] [1, 2, 4, 5])
     (.seq
      (.seq
       (.reg [⟨some 19, none, [.t 2], .v (.faddr 4)⟩,
         ⟨some 20, none, [.t 19], .loadL 2 4 1 false⟩,
         ⟨some 21, none, [.t 20], .v (.len)⟩,
         ⟨some 22, none, [.c (.pv (.int .i64 0))], .v (.mv)⟩] [1, 2, 4, 5, 20, 21, 22])
       (.block 0
        g91L0))
      (.seq
       (.reg [⟨some 34, none, [.t 5], .v (.mv)⟩,
         ⟨some 35, none, [.t 2], .v (.faddr 4)⟩,
         ⟨none, none, [.t 35, .t 34], .storeL 2 4 1⟩] [2, 4])
       (.seq
        (.reg [⟨some 36, none, [.t 2], .loadL 2 0 5 true⟩,
          ⟨none, none, [.t 4, .t 36], .storeL 4 0 5⟩] [4])
        .ret))))))⟩

/- typedholes/types.Replace$1 -/
def g92B0 : ACode :=
  (.seq
   (.reg [⟨some 12, none, [.t 11, .t 10], .v (.bin .lss)⟩] [2, 3, 9, 10, 11, 12])
   (.seq
    (.cond (.t 12)
     .skip
     (.exit 0))
    (.seq
     (.block 1
      (.seq
       (.reg [⟨some 13, none, [.t 9, .t 11], .v (.iaddr 6)⟩,
         ⟨some 14, none, [.t 13], .v (.loadE 6 true)⟩,
         ⟨some 5, none, [], .alloc 5 [.int .i64 0, .int .i64 0, .str [], .int .i64 0, .int .i64 0, .lst []]⟩,
         ⟨none, none, [.t 5, .t 14], .storeL 5 0 6⟩] [2, 3, 5, 9, 10, 11])
       (.seq
        (.reg [⟨some 15, none, [.t 5], .v (.faddr 0)⟩,
          ⟨some 16, none, [.t 15], .loadL 5 0 1 false⟩,
          ⟨some 17, none, [.t 2], .v (.faddr 2)⟩,
          ⟨some 18, none, [.t 17], .loadL 2 2 1 false⟩,
          ⟨some 19, none, [.t 16, .t 18], .v (.bin .eql)⟩] [2, 3, 5, 9, 10, 11, 19])
        (.cond (.t 19)
         (.seq
          (.reg [⟨some 20, none, [.t 5], .v (.faddr 1)⟩,
            ⟨some 21, none, [.t 20], .loadL 5 1 5 true⟩,
            ⟨none, none, [.t 3, .t 21], .storeL 3 0 5⟩] [3])
          .ret)
         .skip))))
     (.reg [⟨some 22, none, [.t 11, .c (.pv (.int .i64 1))], .v (.bin .add)⟩,
       ⟨some 11, none, [.t 22], .v (.mv)⟩] [2, 3, 9, 10, 11]))))
def g92L0 : ACode := .loop [2, 3, 9, 10, 11] g92B0
theorem g92L0_eq {AP : Nat → Option AFunc} {st : St} : cl AP g92L0 st = after (cl AP g92L0) (cl AP g92B0 (norm (restrict [2, 3, 9, 10, 11] st))) := cl_loop
def g92 : AFunc := ⟨1, 24, [.c 3 5 true],
  (.seq
   (.reg [⟨some 2, none, [.t 0], .box 2 5⟩,
     ⟨some 3, none, [], .alloc 3 [.int .i64 0, .str [], .int .i64 0, .int .i64 0, .lst []]⟩] [1, 2, 3])
   (.seq
    (.seq
     (.reg [⟨some 6, none, [.t 2], .v (.faddr 0)⟩,
       ⟨some 7, none, [.t 6], .loadL 2 0 1 false⟩,
       ⟨some 8, none, [.t 7, .c (.pv (.int .i64 1))], .v (.bin .eql)⟩] [1, 2, 3, 8])
     (.cond (.t 8)
      (.seq
       (.reg [⟨some 9, none, [.t 1], .loadS 1 false⟩,
         ⟨some 10, none, [.t 9], .v (.len)⟩,
         ⟨some 11, none, [.c (.pv (.int .i64 0))], .v (.mv)⟩] [2, 3, 9, 10, 11])
       (.block 0
        g92L0))
      .skip))
    (.seq
     (.reg [⟨some 23, none, [.t 2], .loadL 2 0 5 true⟩,
       ⟨none, none, [.t 3, .t 23], .storeL 3 0 5⟩] [3])
     .ret)))⟩

/- typedholes/types.Open$1 -/
def g93 : AFunc := ⟨1, 25, [.c 3 5 true],
  (.seq
   (.reg [⟨some 2, none, [.t 0], .box 2 5⟩,
     ⟨some 3, none, [], .alloc 3 [.int .i64 0, .str [], .int .i64 0, .int .i64 0, .lst []]⟩] [1, 2, 3])
   (.seq
    (.seq
     (.reg [⟨some 4, none, [.t 2], .v (.faddr 0)⟩,
       ⟨some 5, none, [.t 4], .loadL 2 0 1 false⟩,
       ⟨some 6, none, [.t 5, .c (.pv (.int .i64 2))], .v (.bin .eql)⟩,
       ⟨some 7, none, [.t 6], .v (.mv)⟩,
       ⟨some 8, some (7, true), [.t 2], .v (.faddr 2)⟩,
       ⟨some 9, some (7, true), [.t 8], .loadL 2 2 1 false⟩,
       ⟨some 10, some (7, true), [.t 9, .c (.pv (.int .i64 0))], .v (.bin .geq)⟩,
       ⟨some 11, none, [.t 7, .t 10, .c (.pv (.bool false))], .v (.pick)⟩,
       ⟨some 12, none, [.t 11], .v (.mv)⟩,
       ⟨some 13, some (12, true), [.t 2], .v (.faddr 2)⟩,
       ⟨some 14, some (12, true), [.t 13], .loadL 2 2 1 false⟩,
       ⟨some 15, some (12, true), [.t 1], .loadS 1 false⟩,
       ⟨some 16, some (12, true), [.t 15], .v (.len)⟩,
       ⟨some 17, some (12, true), [.t 14, .t 16], .v (.bin .lss)⟩,
       ⟨some 18, none, [.t 12, .t 17, .c (.pv (.bool false))], .v (.pick)⟩] [1, 2, 3, 18])
     (.cond (.t 18)
      (.seq
       (.reg [⟨some 19, none, [.t 1], .loadS 1 false⟩,
         ⟨some 20, none, [.t 2], .v (.faddr 2)⟩,
         ⟨some 21, none, [.t 20], .loadL 2 2 1 false⟩,
         ⟨some 22, none, [.t 19, .t 21], .v (.iaddr 5)⟩,
         ⟨some 23, none, [.t 22], .v (.loadE 5 true)⟩,
         ⟨none, none, [.t 3, .t 23], .storeL 3 0 5⟩] [3])
       .ret)
      .skip))
    (.seq
     (.reg [⟨some 24, none, [.t 2], .loadL 2 0 5 true⟩,
       ⟨none, none, [.t 3, .t 24], .storeL 3 0 5⟩] [3])
     .ret)))⟩

/- typedholes/types.Occurs$1 -/
def g94 : AFunc := ⟨1, 7, [.t 3],
  (.seq
   (.reg [⟨some 2, none, [.t 0], .box 2 5⟩,
     ⟨some 3, none, [.c (.pv (.bool false))], .v (.mv)⟩] [1, 2])
   (.seq
    (.reg [⟨some 4, none, [.t 1], .loadS 1 false⟩,
      ⟨some 5, none, [.t 2], .loadL 2 0 5 true⟩,
      ⟨some 6, none, [.t 4, .t 5], .callP 53⟩,
      ⟨some 3, none, [.t 6], .v (.mv)⟩] [3])
    .ret))⟩

/- typedholes/typedholesref3.Has -/
def g95B0 : ACode :=
  (.seq
   (.seq
    (.reg [⟨some 6, none, [.t 5], .v (.mv)⟩,
      ⟨some 7, none, [.t 0], .v (.mv)⟩,
      ⟨some 8, none, [.t 7], .v (.len)⟩,
      ⟨some 9, none, [.t 6, .t 8], .v (.bin .lss)⟩] [0, 1, 5, 9])
    (.cond (.t 9)
     .skip
     (.exit 0)))
   (.seq
    (.block 1
     (.seq
      (.reg [⟨some 12, none, [.t 0], .v (.mv)⟩,
        ⟨some 13, none, [.t 5], .v (.mv)⟩,
        ⟨some 14, none, [.t 12, .t 13], .v (.iaddr 1)⟩,
        ⟨some 15, none, [.t 14], .v (.loadE 1 false)⟩,
        ⟨some 16, none, [.t 1], .v (.mv)⟩,
        ⟨some 17, none, [.t 15, .t 16], .v (.bin .eql)⟩] [0, 1, 5, 17])
      (.cond (.t 17)
       (.seq
        (.reg [⟨some 4, none, [.c (.pv (.bool true))], .v (.mv)⟩] [4])
        .ret)
       .skip)))
    (.reg [⟨some 10, none, [.t 5], .v (.mv)⟩,
      ⟨some 11, none, [.t 10, .c (.pv (.int .i64 1))], .v (.bin .add)⟩,
      ⟨some 5, none, [.t 11], .v (.mv)⟩] [0, 1, 5])))
def g95L0 : ACode := .loop [0, 1, 5] g95B0
theorem g95L0_eq {AP : Nat → Option AFunc} {st : St} : cl AP g95L0 st = after (cl AP g95L0) (cl AP g95B0 (norm (restrict [0, 1, 5] st))) := cl_loop
def g95 : AFunc := ⟨2, 18, [.t 4],
  (.seq
   (.reg [⟨some 4, none, [.c (.pv (.bool false))], .v (.mv)⟩] [0, 1])
   (.seq
    (.seq
     (.reg [⟨some 5, none, [.c (.pv (.int .i64 0))], .v (.mv)⟩] [0, 1, 5])
     (.block 0
      g95L0))
    (.seq
     (.reg [⟨some 4, none, [.c (.pv (.bool false))], .v (.mv)⟩] [4])
     .ret)))⟩

/- typedholes/types.visit -/
def g96B0 : ACode :=
  (.seq
   (.reg [⟨some 13, none, [.t 12, .t 11], .v (.bin .lss)⟩] [1, 10, 11, 12, 13])
   (.seq
    (.cond (.t 13)
     .skip
     (.exit 0))
    (.seq
     (.block 1
      (.seq
       (.reg [⟨some 14, none, [.t 10, .t 12], .v (.iaddr 5)⟩,
         ⟨some 15, none, [.t 14], .v (.loadE 5 true)⟩,
         ⟨some 5, none, [], .alloc 5 [.int .i64 0, .str [], .int .i64 0, .int .i64 0, .lst []]⟩,
         ⟨none, none, [.t 5, .t 15], .storeL 5 0 5⟩] [1, 5, 10, 11, 12])
       (.reg [⟨some 16, none, [.t 5], .loadL 5 0 5 true⟩,
         ⟨some 17, none, [.t 1], .v (.mv)⟩,
         ⟨some 18, none, [.t 16, .t 17], .callI 96 []⟩] [1, 10, 11, 12])))
     (.reg [⟨some 19, none, [.t 12, .c (.pv (.int .i64 1))], .v (.bin .add)⟩,
       ⟨some 12, none, [.t 19], .v (.mv)⟩] [1, 10, 11, 12]))))
def g96L0 : ACode := .loop [1, 10, 11, 12] g96B0
theorem g96L0_eq {AP : Nat → Option AFunc} {st : St} : cl AP g96L0 st = after (cl AP g96L0) (cl AP g96B0 (norm (restrict [1, 10, 11, 12] st))) := cl_loop
def g96 : AFunc := ⟨2, 20, [],
  (.seq
   (.reg [⟨some 2, none, [.t 0], .box 2 5⟩] [1, 2])
   (.seq
    (.reg [⟨some 6, none, [.t 1], .v (.mv)⟩,
      ⟨some 7, none, [.t 2], .loadL 2 0 5 true⟩,
      ⟨some 8, none, [.t 6, .t 7], .callV⟩] [1, 2])
    (.seq
     (.reg [⟨some 9, none, [.t 2], .v (.faddr 4)⟩,
       ⟨some 10, none, [.t 9], .loadL 2 4 1 false⟩,
       ⟨some 11, none, [.t 10], .v (.len)⟩,
       ⟨some 12, none, [.c (.pv (.int .i64 0))], .v (.mv)⟩] [1, 10, 11, 12])
     (.block 0
      g96L0))))⟩

/- typedholes/types.Vars$1 -/
def g97 : AFunc := ⟨1, 18, [],
  (.seq
   (.reg [⟨some 2, none, [.t 0], .box 2 5⟩] [1, 2])
   (.seq
    (.reg [⟨some 3, none, [.t 2], .v (.faddr 0)⟩,
      ⟨some 4, none, [.t 3], .loadL 2 0 1 false⟩,
      ⟨some 5, none, [.t 4, .c (.pv (.int .i64 1))], .v (.bin .eql)⟩,
      ⟨some 6, none, [.t 5], .v (.mv)⟩,
      ⟨some 7, some (6, true), [.t 1], .loadS 1 false⟩,
      ⟨some 8, some (6, true), [.t 2], .v (.faddr 2)⟩,
      ⟨some 9, some (6, true), [.t 8], .loadL 2 2 1 false⟩,
      ⟨some 10, some (6, true), [.t 7, .t 9], .callP 98⟩,
      ⟨some 11, some (6, true), [.t 10], .v (.un .not)⟩,
      ⟨some 12, none, [.t 6, .t 11, .c (.pv (.bool false))], .v (.pick)⟩] [1, 2, 12])
    (.cond (.t 12)
     (.reg [⟨some 13, none, [.t 1], .loadS 1 false⟩,
       ⟨some 14, none, [.t 2], .v (.faddr 2)⟩,
       ⟨some 15, none, [.t 14], .loadL 2 2 1 false⟩,
       ⟨some 16, none, [.t 15], .v (.bslice 1)⟩,
       ⟨some 17, none, [.t 13, .t 16], .append 1 8⟩,
       ⟨none, none, [.t 1, .t 17], .storeS 1⟩] [])
     .skip)))⟩

/- slices.Contains[[]int,int] -/
def g98 : AFunc := ⟨2, 9, [.t 4],
  (.seq
   (.reg [⟨some 4, none, [.c (.pv (.bool false))], .v (.mv)⟩] [0, 1])
   (.seq
    (.reg [⟨some 5, none, [.t 0], .v (.mv)⟩,
      ⟨some 6, none, [.t 1], .v (.mv)⟩,
      ⟨some 7, none, [.t 5, .t 6], .callP 116⟩,
      ⟨some 8, none, [.t 7, .c (.pv (.int .i64 0))], .v (.bin .geq)⟩,
      ⟨some 4, none, [.t 8], .v (.mv)⟩] [4])
    .ret))⟩

/- typedholes/typedholesref3.leaves -/
def g99B0 : ACode :=
  (.seq
   (.seq
    (.reg [⟨some 19, none, [.t 7], .v (.mv)⟩,
      ⟨some 20, none, [.t 0], .v (.mv)⟩,
      ⟨some 21, none, [.t 20], .v (.len)⟩,
      ⟨some 22, none, [.t 19, .t 21], .v (.bin .lss)⟩] [0, 4, 7, 22])
    (.cond (.t 22)
     .skip
     (.exit 0)))
   (.seq
    (.block 1
     (.seq
      (.reg [⟨some 25, none, [.t 0], .v (.mv)⟩,
        ⟨some 26, none, [.t 7], .v (.mv)⟩,
        ⟨some 27, none, [.t 25, .t 26], .v (.iaddr 5)⟩,
        ⟨some 28, none, [.t 27], .v (.loadE 5 true)⟩,
        ⟨some 29, none, [.t 4], .loadL 4 0 5 true⟩,
        ⟨some 30, none, [.t 28, .t 29], .callP 20⟩] [0, 4, 7, 30])
      (.cond (.t 30)
       (.seq
        (.reg [⟨some 31, none, [.t 0], .v (.mv)⟩,
          ⟨some 6, none, [.t 31], .v (.mv)⟩] [6])
        .ret)
       .skip)))
    (.reg [⟨some 23, none, [.t 7], .v (.mv)⟩,
      ⟨some 24, none, [.t 23, .c (.pv (.int .i64 1))], .v (.bin .add)⟩,
      ⟨some 7, none, [.t 24], .v (.mv)⟩] [0, 4, 7])))
def g99L0 : ACode := .loop [0, 4, 7] g99B0
theorem g99L0_eq {AP : Nat → Option AFunc} {st : St} : cl AP g99L0 st = after (cl AP g99L0) (cl AP g99B0 (norm (restrict [0, 4, 7] st))) := cl_loop
def g99B1 : ACode :=
  (.seq
   (.seq
    (.reg [⟨some 36, none, [.t 8], .v (.mv)⟩,
      ⟨some 37, none, [.t 4], .v (.faddr 4)⟩,
      ⟨some 38, none, [.t 37], .loadL 4 4 1 false⟩,
      ⟨some 39, none, [.t 38], .v (.len)⟩,
      ⟨some 40, none, [.t 36, .t 39], .v (.bin .lss)⟩] [0, 2, 4, 8, 40])
    (.cond (.t 40)
     .skip
     (.exit 2)))
   (.seq
    (.block 3
     (.reg [⟨some 43, none, [.t 0], .v (.mv)⟩,
       ⟨some 44, none, [.t 4], .v (.faddr 4)⟩,
       ⟨some 45, none, [.t 44], .loadL 4 4 1 false⟩,
       ⟨some 46, none, [.t 8], .v (.mv)⟩,
       ⟨some 47, none, [.t 45, .t 46], .v (.iaddr 5)⟩,
       ⟨some 48, none, [.t 47], .v (.loadE 5 true)⟩,
       ⟨some 49, none, [.t 2], .v (.mv)⟩,
       ⟨some 50, none, [.t 43, .t 48, .t 49], .callI 99 [0]⟩,
       ⟨some 0, none, [.t 50], .v (.mv)⟩] [0, 2, 4, 8]))
    (.reg [⟨some 41, none, [.t 8], .v (.mv)⟩,
      ⟨some 42, none, [.t 41, .c (.pv (.int .i64 1))], .v (.bin .add)⟩,
      ⟨some 8, none, [.t 42], .v (.mv)⟩] [0, 2, 4, 8])))
def g99L1 : ACode := .loop [0, 2, 4, 8] g99B1
theorem g99L1_eq {AP : Nat → Option AFunc} {st : St} : cl AP g99L1 st = after (cl AP g99L1) (cl AP g99B1 (norm (restrict [0, 2, 4, 8] st))) := cl_loop
def g99 : AFunc := ⟨3, 52, [.t 6],
  (.seq
   (.reg [⟨some 4, none, [.t 1], .box 4 5⟩,
     ⟨some 6, none, [.c (.clp [])], .v (.mv)⟩] [0, 2, 4])
   (.seq
    (.seq
     (.reg [⟨some 9, none, [.t 4], .v (.faddr 0)⟩,
       ⟨some 10, none, [.t 9], .loadL 4 0 1 false⟩,
       ⟨some 11, none, [.t 2], .v (.mv)⟩,
       ⟨some 12, none, [.t 10, .t 11], .v (.bin .eql)⟩,
       ⟨some 13, none, [.t 12], .v (.mv)⟩,
       ⟨some 14, some (13, true), [.t 4], .v (.faddr 4)⟩,
       ⟨some 15, some (13, true), [.t 14], .loadL 4 4 1 false⟩,
       ⟨some 16, some (13, true), [.t 15], .v (.len)⟩,
       ⟨some 17, some (13, true), [.t 16, .c (.pv (.int .i64 0))], .v (.bin .eql)⟩,
       ⟨some 18, none, [.t 13, .t 17, .c (.pv (.bool false))], .v (.pick)⟩] [0, 2, 4, 18])
     (.cond (.t 18)
      (.seq
       (.seq
        (.reg [⟨some 7, none, [.c (.pv (.int .i64 0))], .v (.mv)⟩] [0, 4, 7])
        (.block 0
         g99L0))
       (.seq
        (.reg [⟨some 32, none, [.t 0], .v (.mv)⟩,
          ⟨some 33, none, [.t 4], .loadL 4 0 5 true⟩,
          ⟨some 34, none, [.t 33], .v (.bslice 5)⟩,
          ⟨some 35, none, [.t 32, .t 34], .append 5 64⟩,
          ⟨some 6, none, [.t 35], .v (.mv)⟩] [6])
        .ret))
      .skip))
    (.seq
     (.seq
      (.reg [⟨some 8, none, [.c (.pv (.int .i64 0))], .v (.mv)⟩] [0, 2, 4, 8])
      (.block 2
       g99L1))
     (.seq
      (.reg [⟨some 51, none, [.t 0], .v (.mv)⟩,
        ⟨some 6, none, [.t 51], .v (.mv)⟩] [6])
      .ret))))⟩

/- typedholes/types.Rigids$1$1 -/
def g101 : AFunc := ⟨1, 7, [.t 3],
  (.seq
   (.reg [⟨some 2, none, [.t 0], .box 2 5⟩,
     ⟨some 3, none, [.c (.pv (.bool false))], .v (.mv)⟩] [1, 2])
   (.seq
    (.reg [⟨some 4, none, [.t 1], .loadS 5 true⟩,
      ⟨some 5, none, [.t 2], .loadL 2 0 5 true⟩,
      ⟨some 6, none, [.t 4, .t 5], .callP 33⟩,
      ⟨some 3, none, [.t 6], .v (.mv)⟩] [3])
    .ret))⟩

/- typedholes/subst.match -/
def g102B0 : ACode :=
  (.seq
   (.seq
    (.reg [⟨some 53, none, [.t 12], .v (.mv)⟩,
      ⟨some 54, none, [.t 53], .v (.mv)⟩,
      ⟨some 55, some (54, true), [.t 13], .v (.mv)⟩,
      ⟨some 56, some (54, true), [.t 10], .v (.mv)⟩,
      ⟨some 57, some (54, true), [.t 56], .v (.len)⟩,
      ⟨some 58, some (54, true), [.t 55, .t 57], .v (.bin .lss)⟩,
      ⟨some 59, none, [.t 54, .t 58, .c (.pv (.bool false))], .v (.pick)⟩] [0, 10, 11, 12, 13, 59])
    (.cond (.t 59)
     .skip
     (.exit 0)))
   (.seq
    (.block 1
     (.reg [⟨some 63, none, [.t 0], .v (.mv)⟩,
       ⟨some 64, none, [.t 10], .v (.mv)⟩,
       ⟨some 65, none, [.t 13], .v (.mv)⟩,
       ⟨some 66, none, [.t 64, .t 65], .v (.iaddr 5)⟩,
       ⟨some 67, none, [.t 66], .v (.loadE 5 true)⟩,
       ⟨some 68, none, [.t 11], .v (.mv)⟩,
       ⟨some 69, none, [.t 13], .v (.mv)⟩,
       ⟨some 70, none, [.t 68, .t 69], .v (.iaddr 5)⟩,
       ⟨some 71, none, [.t 70], .v (.loadE 5 true)⟩,
       ⟨some 72, none, [.t 63, .t 67, .t 71], .callI 102 [0]⟩,
       ⟨some 62, none, [.t 72], .v (.mv)⟩,
       ⟨some 73, none, [.t 62], .v (.ext 0)⟩,
       ⟨some 74, none, [.t 62], .v (.ext 1)⟩,
       ⟨some 0, none, [.t 73], .v (.mv)⟩,
       ⟨some 12, none, [.t 74], .v (.mv)⟩] [0, 10, 11, 12, 13]))
    (.reg [⟨some 60, none, [.t 13], .v (.mv)⟩,
      ⟨some 61, none, [.t 60, .c (.pv (.int .i64 1))], .v (.bin .add)⟩,
      ⟨some 13, none, [.t 61], .v (.mv)⟩] [0, 10, 11, 12, 13])))
def g102L0 : ACode := .loop [0, 10, 11, 12, 13] g102B0
theorem g102L0_eq {AP : Nat → Option AFunc} {st : St} : cl AP g102L0 st = after (cl AP g102L0) (cl AP g102B0 (norm (restrict [0, 10, 11, 12, 13] st))) := cl_loop
def g102 : AFunc := ⟨3, 77, [.t 6, .t 7],
  (.seq
   (.reg [⟨some 4, none, [.t 1], .box 4 5⟩,
     ⟨some 5, none, [.t 2], .box 5 5⟩,
     ⟨some 6, none, [.c (.clp [])], .v (.mv)⟩,
     ⟨some 7, none, [.c (.pv (.bool false))], .v (.mv)⟩] [0, 4, 5])
   (.seq
    (.seq
     (.reg [⟨some 14, none, [.t 4], .v (.faddr 0)⟩,
       ⟨some 15, none, [.t 14], .loadL 4 0 1 false⟩,
       ⟨some 16, none, [.t 15, .c (.pv (.int .i64 1))], .v (.bin .eql)⟩] [0, 4, 5, 16])
     (.cond (.t 16)
      (.seq
       (.reg [⟨some 18, none, [.t 0], .v (.mv)⟩,
         ⟨some 19, none, [.t 4], .v (.faddr 2)⟩,
         ⟨some 20, none, [.t 19], .loadL 4 2 1 false⟩,
         ⟨some 21, none, [.t 18, .t 20], .callP 64⟩,
         ⟨some 17, none, [.t 21], .v (.mv)⟩,
         ⟨some 22, none, [.t 17], .v (.ext 0)⟩,
         ⟨some 23, none, [.t 17], .v (.ext 1)⟩,
         ⟨some 8, none, [], .alloc 8 [.int .i64 0, .str [], .int .i64 0, .int .i64 0, .lst []]⟩,
         ⟨none, none, [.t 8, .t 22], .storeL 8 0 5⟩,
         ⟨some 9, none, [.t 23], .v (.mv)⟩] [0, 4, 5, 8, 9])
       (.seq
        (.seq
         (.reg [⟨some 24, none, [.t 9], .v (.mv)⟩] [0, 4, 5, 8, 24])
         (.cond (.t 24)
          (.seq
           (.reg [⟨some 25, none, [.t 0], .v (.mv)⟩,
             ⟨some 26, none, [.t 8], .loadL 8 0 5 true⟩,
             ⟨some 27, none, [.t 5], .loadL 5 0 5 true⟩,
             ⟨some 28, none, [.t 26, .t 27], .callP 33⟩,
             ⟨some 6, none, [.t 25], .v (.mv)⟩,
             ⟨some 7, none, [.t 28], .v (.mv)⟩] [6, 7])
           .ret)
          .skip))
        (.seq
         (.reg [⟨some 29, none, [.t 0], .v (.mv)⟩,
           ⟨some 30, none, [.t 4], .v (.faddr 2)⟩,
           ⟨some 31, none, [.t 30], .loadL 4 2 1 false⟩,
           ⟨some 32, none, [.t 5], .loadL 5 0 5 true⟩,
           ⟨some 33, none, [.t 31, .t 32], .v (.build [.int .i64 0, .int .i64 0, .str [], .int .i64 0, .int .i64 0, .lst []] [(0, 1), (1, 5)])⟩,
           ⟨some 34, none, [.t 33], .v (.bslice 6)⟩,
           ⟨some 35, none, [.t 29, .t 34], .append 6 72⟩,
           ⟨some 6, none, [.t 35], .v (.mv)⟩,
           ⟨some 7, none, [.c (.pv (.bool true))], .v (.mv)⟩] [6, 7])
         .ret)))
      .skip))
    (.seq
     (.seq
      (.reg [⟨some 36, none, [.t 4], .v (.faddr 4)⟩,
        ⟨some 37, none, [.t 36], .loadL 4 4 1 false⟩,
        ⟨some 38, none, [.t 37], .v (.len)⟩,
        ⟨some 39, none, [.t 5], .v (.faddr 4)⟩,
        ⟨some 40, none, [.t 39], .loadL 5 4 1 false⟩,
        ⟨some 41, none, [.t 40], .v (.len)⟩,
        ⟨some 42, none, [.t 38, .t 41], .v (.bin .neq)⟩] [0, 4, 5, 42])
      (.cond (.t 42)
       (.seq
        (.reg [⟨some 43, none, [.t 0], .v (.mv)⟩,
          ⟨some 6, none, [.t 43], .v (.mv)⟩,
          ⟨some 7, none, [.c (.pv (.bool false))], .v (.mv)⟩] [6, 7])
        .ret)
       .skip))
     (.seq
      (.reg [⟨some 44, none, [.t 4], .v (.faddr 4)⟩,
        ⟨some 45, none, [.t 44], .loadL 4 4 1 false⟩,
        ⟨some 46, none, [.t 5], .v (.faddr 4)⟩,
        ⟨some 47, none, [.t 46], .loadL 5 4 1 false⟩,
        ⟨some 10, none, [.t 45], .v (.mv)⟩,
        ⟨some 11, none, [.t 47], .v (.mv)⟩] [0, 4, 5, 10, 11])
      (.seq
       (.reg [⟨some 48, none, [.t 4], .v (.faddr 4)⟩,
         ⟨none, none, [.t 48, .c (.clp [])], .storeL 4 4 1⟩,
         ⟨some 49, none, [.t 5], .v (.faddr 4)⟩,
         ⟨none, none, [.t 49, .c (.clp [])], .storeL 5 4 1⟩] [0, 4, 5, 10, 11])
       (.seq
        (.reg [⟨some 50, none, [.t 4], .loadL 4 0 5 true⟩,
          ⟨some 51, none, [.t 5], .loadL 5 0 5 true⟩,
          ⟨some 52, none, [.t 50, .t 51], .callP 33⟩,
          ⟨some 12, none, [.t 52], .v (.mv)⟩] [0, 10, 11, 12])
        (.seq
         (.seq
          (.reg [⟨some 13, none, [.c (.pv (.int .i64 0))], .v (.mv)⟩] [0, 10, 11, 12, 13])
          (.block 0
           g102L0))
         (.seq
          (.reg [⟨some 75, none, [.t 0], .v (.mv)⟩,
            ⟨some 76, none, [.t 12], .v (.mv)⟩,
            ⟨some 6, none, [.t 75], .v (.mv)⟩,
            ⟨some 7, none, [.t 76], .v (.mv)⟩] [6, 7])
          .ret))))))))⟩

/- typedholes/typedholesref13.Match -/
def g103B0 : ACode :=
  (.seq
   (.seq
    (.reg [⟨some 67, none, [.t 9], .v (.mv)⟩,
      ⟨some 68, none, [.t 3], .v (.faddr 4)⟩,
      ⟨some 69, none, [.t 68], .loadL 3 4 1 false⟩,
      ⟨some 70, none, [.t 69], .v (.len)⟩,
      ⟨some 71, none, [.t 67, .t 70], .v (.bin .lss)⟩,
      ⟨some 72, none, [.t 71], .v (.mv)⟩,
      ⟨some 73, some (72, true), [.t 8], .v (.mv)⟩,
      ⟨some 74, none, [.t 72, .t 73, .c (.pv (.bool false))], .v (.pick)⟩] [2, 3, 4, 8, 9, 74])
    (.cond (.t 74)
     .skip
     (.exit 0)))
   (.seq
    (.block 1
     (.reg [⟨some 78, none, [.t 3], .v (.faddr 4)⟩,
       ⟨some 79, none, [.t 78], .loadL 3 4 1 false⟩,
       ⟨some 80, none, [.t 9], .v (.mv)⟩,
       ⟨some 81, none, [.t 79, .t 80], .v (.iaddr 5)⟩,
       ⟨some 82, none, [.t 81], .v (.loadE 5 true)⟩,
       ⟨some 83, none, [.t 4], .v (.faddr 4)⟩,
       ⟨some 84, none, [.t 83], .loadL 4 4 1 false⟩,
       ⟨some 85, none, [.t 9], .v (.mv)⟩,
       ⟨some 86, none, [.t 84, .t 85], .v (.iaddr 5)⟩,
       ⟨some 87, none, [.t 86], .v (.loadE 5 true)⟩,
       ⟨some 88, none, [.t 2], .v (.mv)⟩,
       ⟨some 89, none, [.t 82, .t 87, .t 88], .callP 103⟩,
       ⟨some 77, none, [.t 89], .v (.mv)⟩,
       ⟨some 90, none, [.t 77], .v (.ext 0)⟩,
       ⟨some 91, none, [.t 77], .v (.ext 1)⟩,
       ⟨some 2, none, [.t 90], .v (.mv)⟩,
       ⟨some 8, none, [.t 91], .v (.mv)⟩] [2, 3, 4, 8, 9]))
    (.reg [⟨some 75, none, [.t 9], .v (.mv)⟩,
      ⟨some 76, none, [.t 75, .c (.pv (.int .i64 1))], .v (.bin .add)⟩,
      ⟨some 9, none, [.t 76], .v (.mv)⟩] [2, 3, 4, 8, 9])))
def g103L0 : ACode := .loop [2, 3, 4, 8, 9] g103B0
theorem g103L0_eq {AP : Nat → Option AFunc} {st : St} : cl AP g103L0 st = after (cl AP g103L0) (cl AP g103B0 (norm (restrict [2, 3, 4, 8, 9] st))) := cl_loop
def g103 : AFunc := ⟨3, 95, [.t 6, .t 7],
  (.seq
   (.reg [⟨some 3, none, [.t 0], .box 3 5⟩,
     ⟨some 4, none, [.t 1], .box 4 5⟩,
     ⟨some 6, none, [.c (.clp [])], .v (.mv)⟩,
     ⟨some 7, none, [.c (.pv (.bool false))], .v (.mv)⟩] [2, 3, 4])
   (.seq
    (.seq
     (.reg [⟨some 10, none, [.t 3], .v (.faddr 0)⟩,
       ⟨some 11, none, [.t 10], .loadL 3 0 1 false⟩,
       ⟨some 12, none, [.t 11, .c (.pv (.int .i64 1))], .v (.bin .eql)⟩] [2, 3, 4, 12])
     (.cond (.t 12)
      (.seq
       (.seq
        (.reg [⟨some 13, none, [.t 2], .v (.mv)⟩,
          ⟨some 14, none, [.t 3], .v (.faddr 2)⟩,
          ⟨some 15, none, [.t 14], .loadL 3 2 1 false⟩,
          ⟨some 16, none, [.t 13, .t 15], .callP 65⟩] [2, 3, 4, 16])
        (.cond (.t 16)
         (.seq
          (.seq
           (.reg [⟨some 17, none, [.t 2], .v (.mv)⟩,
             ⟨some 18, none, [.t 3], .loadL 3 0 5 true⟩,
             ⟨some 19, none, [.t 17, .t 18], .callP 22⟩,
             ⟨some 20, none, [.t 4], .loadL 4 0 5 true⟩,
             ⟨some 21, none, [.t 19, .t 20], .callP 20⟩,
             ⟨some 22, none, [.t 21], .v (.un .not)⟩] [2, 22])
           (.cond (.t 22)
            (.seq
             (.reg [⟨some 6, none, [.c (.clp [])], .v (.mv)⟩,
               ⟨some 7, none, [.c (.pv (.bool false))], .v (.mv)⟩] [6, 7])
             .ret)
            .skip))
          (.seq
           (.reg [⟨some 23, none, [.t 2], .v (.mv)⟩,
             ⟨some 6, none, [.t 23], .v (.mv)⟩,
             ⟨some 7, none, [.c (.pv (.bool true))], .v (.mv)⟩] [6, 7])
           .ret))
         .skip))
       (.seq
        (.reg [⟨some 24, none, [.t 2], .v (.mv)⟩,
          ⟨some 25, none, [.c (.clp []), .t 24], .append 6 72⟩,
          ⟨some 26, none, [.t 3], .v (.faddr 2)⟩,
          ⟨some 27, none, [.t 26], .loadL 3 2 1 false⟩,
          ⟨some 28, none, [.t 4], .loadL 4 0 5 true⟩,
          ⟨some 29, none, [.t 27, .t 28], .v (.build [.int .i64 0, .int .i64 0, .str [], .int .i64 0, .int .i64 0, .lst []] [(0, 1), (1, 5)])⟩,
          ⟨some 30, none, [.t 29], .v (.bslice 6)⟩,
          ⟨some 31, none, [.t 25, .t 30], .append 6 72⟩,
          ⟨some 6, none, [.t 31], .v (.mv)⟩,
          ⟨some 7, none, [.c (.pv (.bool true))], .v (.mv)⟩] [6, 7])
        .ret))
      .skip))
    (.seq
     (.seq
      (.reg [⟨some 32, none, [.t 3], .v (.faddr 0)⟩,
        ⟨some 33, none, [.t 32], .loadL 3 0 1 false⟩,
        ⟨some 34, none, [.t 4], .v (.faddr 0)⟩,
        ⟨some 35, none, [.t 34], .loadL 4 0 1 false⟩,
        ⟨some 36, none, [.t 33, .t 35], .v (.bin .neq)⟩,
        ⟨some 37, none, [.t 36], .v (.mv)⟩,
        ⟨some 38, some (37, false), [.t 3], .v (.faddr 1)⟩,
        ⟨some 39, some (37, false), [.t 38], .loadL 3 1 1 false⟩,
        ⟨some 40, some (37, false), [.t 4], .v (.faddr 1)⟩,
        ⟨some 41, some (37, false), [.t 40], .loadL 4 1 1 false⟩,
        ⟨some 42, some (37, false), [.t 39, .t 41], .v (.bin .neq)⟩,
        ⟨some 43, none, [.t 37, .c (.pv (.bool true)), .t 42], .v (.pick)⟩,
        ⟨some 44, none, [.t 43], .v (.mv)⟩,
        ⟨some 45, some (44, false), [.t 3], .v (.faddr 2)⟩,
        ⟨some 46, some (44, false), [.t 45], .loadL 3 2 1 false⟩,
        ⟨some 47, some (44, false), [.t 4], .v (.faddr 2)⟩,
        ⟨some 48, some (44, false), [.t 47], .loadL 4 2 1 false⟩,
        ⟨some 49, some (44, false), [.t 46, .t 48], .v (.bin .neq)⟩,
        ⟨some 50, none, [.t 44, .c (.pv (.bool true)), .t 49], .v (.pick)⟩,
        ⟨some 51, none, [.t 50], .v (.mv)⟩,
        ⟨some 52, some (51, false), [.t 3], .v (.faddr 3)⟩,
        ⟨some 53, some (51, false), [.t 52], .loadL 3 3 1 false⟩,
        ⟨some 54, some (51, false), [.t 4], .v (.faddr 3)⟩,
        ⟨some 55, some (51, false), [.t 54], .loadL 4 3 1 false⟩,
        ⟨some 56, some (51, false), [.t 53, .t 55], .v (.bin .neq)⟩,
        ⟨some 57, none, [.t 51, .c (.pv (.bool true)), .t 56], .v (.pick)⟩,
        ⟨some 58, none, [.t 57], .v (.mv)⟩,
        ⟨some 59, some (58, false), [.t 3], .v (.faddr 4)⟩,
        ⟨some 60, some (58, false), [.t 59], .loadL 3 4 1 false⟩,
        ⟨some 61, some (58, false), [.t 60], .v (.len)⟩,
        ⟨some 62, some (58, false), [.t 4], .v (.faddr 4)⟩,
        ⟨some 63, some (58, false), [.t 62], .loadL 4 4 1 false⟩,
        ⟨some 64, some (58, false), [.t 63], .v (.len)⟩,
        ⟨some 65, some (58, false), [.t 61, .t 64], .v (.bin .neq)⟩,
        ⟨some 66, none, [.t 58, .c (.pv (.bool true)), .t 65], .v (.pick)⟩] [2, 3, 4, 66])
      (.cond (.t 66)
       (.seq
        (.reg [⟨some 6, none, [.c (.clp [])], .v (.mv)⟩,
          ⟨some 7, none, [.c (.pv (.bool false))], .v (.mv)⟩] [6, 7])
        .ret)
       .skip))
     (.seq
      (.reg [⟨some 8, none, [.c (.pv (.bool true))], .v (.mv)⟩] [2, 3, 4, 8])
      (.seq
       (.seq
        (.reg [⟨some 9, none, [.c (.pv (.int .i64 0))], .v (.mv)⟩] [2, 3, 4, 8, 9])
        (.block 0
         g103L0))
       (.seq
        (.seq
         (.reg [⟨some 92, none, [.t 8], .v (.mv)⟩,
           ⟨some 93, none, [.t 92], .v (.un .not)⟩] [2, 93])
         (.cond (.t 93)
          (.seq
           (.reg [⟨some 6, none, [.c (.clp [])], .v (.mv)⟩,
             ⟨some 7, none, [.c (.pv (.bool false))], .v (.mv)⟩] [6, 7])
           .ret)
          .skip))
        (.seq
         (.reg [⟨some 94, none, [.t 2], .v (.mv)⟩,
           ⟨some 6, none, [.t 94], .v (.mv)⟩,
           ⟨some 7, none, [.c (.pv (.bool true))], .v (.mv)⟩] [6, 7])
         .ret)))))))⟩

/- slices.IndexFunc[[]typedholes/api.Assign,typedholes/api.Assign] -/
def g104B0 : ACode :=
  (.seq
   (.reg [⟨some 9, none, [.t 8, .t 7], .v (.bin .lss)⟩] [0, 1, 7, 8, 9])
   (.seq
    (.cond (.t 9)
     .skip
     (.exit 0))
    (.seq
     (.block 1
      (.seq
       (.reg [⟨some 10, none, [.t 8], .v (.mv)⟩,
         ⟨some 5, none, [.t 10], .v (.mv)⟩] [0, 1, 5, 7, 8])
       (.seq
        (.reg [⟨some 11, none, [.t 1], .v (.mv)⟩,
          ⟨some 12, none, [.t 0], .v (.mv)⟩,
          ⟨some 13, none, [.t 5], .v (.mv)⟩,
          ⟨some 14, none, [.t 12, .t 13], .v (.iaddr 6)⟩,
          ⟨some 15, none, [.t 14], .loadS 6 true⟩,
          ⟨some 16, none, [.t 11, .t 15], .callV⟩] [0, 1, 5, 7, 8, 16])
        (.cond (.t 16)
         (.seq
          (.reg [⟨some 17, none, [.t 5], .v (.mv)⟩,
            ⟨some 4, none, [.t 17], .v (.mv)⟩] [4])
          .ret)
         .skip))))
     (.reg [⟨some 18, none, [.t 8, .c (.pv (.int .i64 1))], .v (.bin .add)⟩,
       ⟨some 8, none, [.t 18], .v (.mv)⟩] [0, 1, 7, 8]))))
def g104L0 : ACode := .loop [0, 1, 7, 8] g104B0
theorem g104L0_eq {AP : Nat → Option AFunc} {st : St} : cl AP g104L0 st = after (cl AP g104L0) (cl AP g104B0 (norm (restrict [0, 1, 7, 8] st))) := cl_loop
def g104 : AFunc := ⟨2, 19, [.t 4],
  (.seq
   (.reg [⟨some 4, none, [.c (.pv (.int .i64 0))], .v (.mv)⟩] [0, 1])
   (.seq
    (.seq
     (.reg [⟨some 6, none, [.t 0], .v (.mv)⟩,
       ⟨some 7, none, [.t 6], .v (.len)⟩,
       ⟨some 8, none, [.c (.pv (.int .i64 0))], .v (.mv)⟩] [0, 1, 7, 8])
     (.block 0
      g104L0))
    (.seq
     (.reg [⟨some 4, none, [.c (.pv (.int .i64 (-1)))], .v (.mv)⟩] [4])
     .ret)))⟩

/- typedholes/subst.find$1 -/
def g105 : AFunc := ⟨1, 8, [.t 3],
  (.seq
   (.reg [⟨some 2, none, [.t 0], .box 2 6⟩,
     ⟨some 3, none, [.c (.pv (.bool false))], .v (.mv)⟩] [1, 2])
   (.seq
    (.reg [⟨some 4, none, [.t 2], .v (.faddr 0)⟩,
      ⟨some 5, none, [.t 4], .loadL 2 0 1 false⟩,
      ⟨some 6, none, [.t 1], .loadS 1 false⟩,
      ⟨some 7, none, [.t 5, .t 6], .v (.bin .eql)⟩,
      ⟨some 3, none, [.t 7], .v (.mv)⟩] [3])
    .ret))⟩

/- typedholes/typedholesref3.Named -/
def g106 : AFunc := ⟨1, 5, [.c 2 5 true],
  (.seq
   (.reg [⟨some 2, none, [], .alloc 2 [.int .i64 0, .str [], .int .i64 0, .int .i64 0, .lst []]⟩] [0, 2])
   (.seq
    (.reg [⟨some 3, none, [.t 0], .v (.mv)⟩,
      ⟨some 4, none, [.c (.pv (.int .i64 5)), .t 3], .v (.build [.int .i64 0, .str [], .int .i64 0, .int .i64 0, .lst []] [(0, 1), (1, 1)])⟩,
      ⟨none, none, [.t 2, .t 4], .storeL 2 0 5⟩] [2])
    .ret))⟩

/- slices.IndexFunc[[]typedholes/api.Type,typedholes/api.Type] -/
def g107B0 : ACode :=
  (.seq
   (.reg [⟨some 9, none, [.t 8, .t 7], .v (.bin .lss)⟩] [0, 1, 7, 8, 9])
   (.seq
    (.cond (.t 9)
     .skip
     (.exit 0))
    (.seq
     (.block 1
      (.seq
       (.reg [⟨some 10, none, [.t 8], .v (.mv)⟩,
         ⟨some 5, none, [.t 10], .v (.mv)⟩] [0, 1, 5, 7, 8])
       (.seq
        (.reg [⟨some 11, none, [.t 1], .v (.mv)⟩,
          ⟨some 12, none, [.t 0], .v (.mv)⟩,
          ⟨some 13, none, [.t 5], .v (.mv)⟩,
          ⟨some 14, none, [.t 12, .t 13], .v (.iaddr 5)⟩,
          ⟨some 15, none, [.t 14], .loadS 5 true⟩,
          ⟨some 16, none, [.t 11, .t 15], .callV⟩] [0, 1, 5, 7, 8, 16])
        (.cond (.t 16)
         (.seq
          (.reg [⟨some 17, none, [.t 5], .v (.mv)⟩,
            ⟨some 4, none, [.t 17], .v (.mv)⟩] [4])
          .ret)
         .skip))))
     (.reg [⟨some 18, none, [.t 8, .c (.pv (.int .i64 1))], .v (.bin .add)⟩,
       ⟨some 8, none, [.t 18], .v (.mv)⟩] [0, 1, 7, 8]))))
def g107L0 : ACode := .loop [0, 1, 7, 8] g107B0
theorem g107L0_eq {AP : Nat → Option AFunc} {st : St} : cl AP g107L0 st = after (cl AP g107L0) (cl AP g107B0 (norm (restrict [0, 1, 7, 8] st))) := cl_loop
def g107 : AFunc := ⟨2, 19, [.t 4],
  (.seq
   (.reg [⟨some 4, none, [.c (.pv (.int .i64 0))], .v (.mv)⟩] [0, 1])
   (.seq
    (.seq
     (.reg [⟨some 6, none, [.t 0], .v (.mv)⟩,
       ⟨some 7, none, [.t 6], .v (.len)⟩,
       ⟨some 8, none, [.c (.pv (.int .i64 0))], .v (.mv)⟩] [0, 1, 7, 8])
     (.block 0
      g107L0))
    (.seq
     (.reg [⟨some 4, none, [.c (.pv (.int .i64 (-1)))], .v (.mv)⟩] [4])
     .ret)))⟩

/- typedholes/typedholesref2.word -/
def g108B0 : ACode :=
  (.seq
   (.seq
    (.reg [⟨some 4, none, [.t 3], .v (.mv)⟩,
      ⟨some 5, none, [.t 0], .v (.mv)⟩,
      ⟨some 6, none, [.t 5], .v (.lenS)⟩,
      ⟨some 7, none, [.t 4, .t 6], .v (.bin .lss)⟩] [0, 3, 7])
    (.cond (.t 7)
     .skip
     (.exit 0)))
   (.seq
    (.block 1
     (.seq
      (.reg [⟨some 10, none, [.t 0], .v (.mv)⟩,
        ⟨some 11, none, [.t 3], .v (.mv)⟩,
        ⟨some 12, none, [.t 10, .t 11], .v (.index)⟩,
        ⟨some 13, none, [.t 12], .callP 117⟩,
        ⟨some 14, none, [.t 13], .v (.un .not)⟩] [0, 3, 14])
      (.cond (.t 14)
       (.seq
        (.reg [⟨some 2, none, [.c (.pv (.bool false))], .v (.mv)⟩] [2])
        .ret)
       .skip)))
    (.reg [⟨some 8, none, [.t 3], .v (.mv)⟩,
      ⟨some 9, none, [.t 8, .c (.pv (.int .i64 1))], .v (.bin .add)⟩,
      ⟨some 3, none, [.t 9], .v (.mv)⟩] [0, 3])))
def g108L0 : ACode := .loop [0, 3] g108B0
theorem g108L0_eq {AP : Nat → Option AFunc} {st : St} : cl AP g108L0 st = after (cl AP g108L0) (cl AP g108B0 (norm (restrict [0, 3] st))) := cl_loop
def g108 : AFunc := ⟨1, 17, [.t 2],
  (.seq
   (.reg [⟨some 2, none, [.c (.pv (.bool false))], .v (.mv)⟩] [0])
   (.seq
    (.seq
     (.reg [⟨some 3, none, [.c (.pv (.int .i64 0))], .v (.mv)⟩] [0, 3])
     (.block 0
      g108L0))
    (.seq
     (.reg [⟨some 15, none, [.t 0], .v (.mv)⟩,
       ⟨some 16, none, [.t 15, .c (.pv (.str []))], .v (.bin .neq)⟩,
       ⟨some 2, none, [.t 16], .v (.mv)⟩] [2])
     .ret)))⟩

/- typedholes/typedholesref2.lower -/
def g109 : AFunc := ⟨1, 9, [.t 2],
  (.seq
   (.reg [⟨some 2, none, [.c (.pv (.bool false))], .v (.mv)⟩] [0])
   (.seq
    (.reg [⟨some 3, none, [.t 0], .v (.mv)⟩,
      ⟨some 4, none, [.t 3, .c (.pv (.int .u8 97))], .v (.bin .geq)⟩,
      ⟨some 5, none, [.t 4], .v (.mv)⟩,
      ⟨some 6, some (5, true), [.t 0], .v (.mv)⟩,
      ⟨some 7, some (5, true), [.t 6, .c (.pv (.int .u8 122))], .v (.bin .leq)⟩,
      ⟨some 8, none, [.t 5, .t 7, .c (.pv (.bool false))], .v (.pick)⟩,
      ⟨some 2, none, [.t 8], .v (.mv)⟩] [2])
    .ret))⟩

/- typedholes/typedholesref2.Keyword -/
def g110B0 : ACode :=
  (.seq
   (.seq
    (.reg [⟨some 6, none, [.t 4], .v (.mv)⟩,
      ⟨some 7, none, [.t 3], .v (.mv)⟩,
      ⟨some 8, none, [.t 7], .v (.len)⟩,
      ⟨some 9, none, [.t 6, .t 8], .v (.bin .lss)⟩] [0, 3, 4, 9])
    (.cond (.t 9)
     .skip
     (.exit 0)))
   (.seq
    (.block 1
     (.seq
      (.reg [⟨some 12, none, [.t 3], .v (.mv)⟩,
        ⟨some 13, none, [.t 4], .v (.mv)⟩,
        ⟨some 14, none, [.t 12, .t 13], .v (.iaddr 1)⟩,
        ⟨some 15, none, [.t 14], .v (.loadE 1 false)⟩,
        ⟨some 16, none, [.t 0], .v (.mv)⟩,
        ⟨some 17, none, [.t 15, .t 16], .v (.bin .eql)⟩] [0, 3, 4, 17])
      (.cond (.t 17)
       (.seq
        (.reg [⟨some 2, none, [.c (.pv (.bool true))], .v (.mv)⟩] [2])
        .ret)
       .skip)))
    (.reg [⟨some 10, none, [.t 4], .v (.mv)⟩,
      ⟨some 11, none, [.t 10, .c (.pv (.int .i64 1))], .v (.bin .add)⟩,
      ⟨some 4, none, [.t 11], .v (.mv)⟩] [0, 3, 4])))
def g110L0 : ACode := .loop [0, 3, 4] g110B0
theorem g110L0_eq {AP : Nat → Option AFunc} {st : St} : cl AP g110L0 st = after (cl AP g110L0) (cl AP g110B0 (norm (restrict [0, 3, 4] st))) := cl_loop
def g110 : AFunc := ⟨1, 18, [.t 2],
  (.seq
   (.reg [⟨some 2, none, [.c (.pv (.bool false))], .v (.mv)⟩] [0])
   (.seq
    (.reg [⟨some 5, none, [.c (.pv (.str [100, 97, 116, 97])), .c (.pv (.str [108, 101, 116])), .c (.pv (.str [114, 101, 99])), .c (.pv (.str [105, 110])), .c (.pv (.str [99, 97, 115, 101])), .c (.pv (.str [111, 102])), .c (.pv (.str [101, 110, 100]))], .v (.bslice 1)⟩,
      ⟨some 3, none, [.t 5], .v (.mv)⟩] [0, 3])
    (.seq
     (.seq
      (.reg [⟨some 4, none, [.c (.pv (.int .i64 0))], .v (.mv)⟩] [0, 3, 4])
      (.block 0
       g110L0))
     (.seq
      (.reg [⟨some 2, none, [.c (.pv (.bool false))], .v (.mv)⟩] [2])
      .ret))))⟩

/- typedholes/typedholesref2.upper -/
def g111 : AFunc := ⟨1, 9, [.t 2],
  (.seq
   (.reg [⟨some 2, none, [.c (.pv (.bool false))], .v (.mv)⟩] [0])
   (.seq
    (.reg [⟨some 3, none, [.t 0], .v (.mv)⟩,
      ⟨some 4, none, [.t 3, .c (.pv (.int .u8 65))], .v (.bin .geq)⟩,
      ⟨some 5, none, [.t 4], .v (.mv)⟩,
      ⟨some 6, some (5, true), [.t 0], .v (.mv)⟩,
      ⟨some 7, some (5, true), [.t 6, .c (.pv (.int .u8 90))], .v (.bin .leq)⟩,
      ⟨some 8, none, [.t 5, .t 7, .c (.pv (.bool false))], .v (.pick)⟩,
      ⟨some 2, none, [.t 8], .v (.mv)⟩] [2])
    .ret))⟩

/- typedholes/typedholesref7.Parse -/
def g112B0 : ACode :=
  (.seq
   (.seq
    (.reg [⟨some 20, none, [.t 7], .v (.mv)⟩,
      ⟨some 21, none, [.t 20], .v (.nilchk)⟩,
      ⟨some 22, none, [.t 21], .v (.faddr 2)⟩,
      ⟨some 23, none, [.t 22], .loadS 1 false⟩,
      ⟨some 24, none, [.t 23], .v (.un .not)⟩,
      ⟨some 25, none, [.t 24], .v (.mv)⟩,
      ⟨some 26, some (25, true), [.t 7], .v (.mv)⟩,
      ⟨some 27, some (25, true), [.t 26], .v (.nilchk)⟩,
      ⟨some 28, some (25, true), [.t 27], .v (.faddr 1)⟩,
      ⟨some 29, some (25, true), [.t 28], .loadS 1 false⟩,
      ⟨some 30, some (25, true), [.t 4], .v (.mv)⟩,
      ⟨some 31, some (25, true), [.t 30], .v (.len)⟩,
      ⟨some 32, some (25, true), [.t 29, .t 31], .v (.bin .lss)⟩,
      ⟨some 33, none, [.t 25, .t 32, .c (.pv (.bool false))], .v (.pick)⟩] [2, 3, 4, 5, 6, 7, 33])
    (.cond (.t 33)
     .skip
     (.exit 0)))
   (.block 1
    (.seq
     (.reg [⟨some 34, none, [.t 7], .v (.mv)⟩,
       ⟨some 35, none, [.t 34, .c (.pv (.str [100, 97, 116, 97]))], .callI 120 []⟩] [2, 3, 4, 5, 6, 7, 35])
     (.cond (.t 35)
      (.reg [⟨some 36, none, [.t 6], .v (.faddr 0)⟩,
        ⟨some 37, none, [.t 36], .loadL 6 0 1 false⟩,
        ⟨some 38, none, [.t 7], .v (.mv)⟩,
        ⟨some 39, none, [.t 38], .callI 121 []⟩,
        ⟨some 40, none, [.t 39], .v (.bslice 4)⟩,
        ⟨some 41, none, [.t 37, .t 40], .append 4 72⟩,
        ⟨some 42, none, [.t 6], .v (.faddr 0)⟩,
        ⟨none, none, [.t 42, .t 41], .storeL 6 0 1⟩] [2, 3, 4, 5, 6, 7])
      (.reg [⟨some 43, none, [.t 6], .v (.faddr 1)⟩,
        ⟨some 44, none, [.t 43], .loadL 6 1 1 false⟩,
        ⟨some 45, none, [.t 7], .v (.mv)⟩,
        ⟨some 46, none, [.t 45], .callI 122 []⟩,
        ⟨some 47, none, [.t 46], .v (.bslice 20)⟩,
        ⟨some 48, none, [.t 44, .t 47], .append 20 256⟩,
        ⟨some 49, none, [.t 6], .v (.faddr 1)⟩,
        ⟨none, none, [.t 49, .t 48], .storeL 6 1 1⟩] [2, 3, 4, 5, 6, 7])))))
def g112L0 : ACode := .loop [2, 3, 4, 5, 6, 7] g112B0
theorem g112L0_eq {AP : Nat → Option AFunc} {st : St} : cl AP g112L0 st = after (cl AP g112L0) (cl AP g112B0 (norm (restrict [2, 3, 4, 5, 6, 7] st))) := cl_loop
def g112 : AFunc := ⟨1, 69, [.c 2 2 true, .c 3 2 true],
  (.seq
   (.reg [⟨some 2, none, [], .alloc 2 [.lst [], .lst []]⟩,
     ⟨some 3, none, [], .alloc 3 [.int .i64 0, .int .i64 0]⟩] [0, 2, 3])
   (.seq
    (.reg [⟨some 9, none, [.t 0], .v (.mv)⟩,
      ⟨some 10, none, [.t 9], .callP 118⟩,
      ⟨some 8, none, [.t 10], .v (.mv)⟩,
      ⟨some 11, none, [.t 8], .v (.ext 0)⟩,
      ⟨some 12, none, [.t 8], .v (.ext 1)⟩,
      ⟨some 5, none, [], .alloc 5 [.int .i64 0, .int .i64 0]⟩,
      ⟨some 4, none, [.t 11], .v (.mv)⟩,
      ⟨none, none, [.t 5, .t 12], .storeL 5 0 2⟩] [2, 3, 4, 5])
    (.seq
     (.seq
      (.reg [⟨some 13, none, [.t 5], .v (.faddr 0)⟩,
        ⟨some 14, none, [.t 13], .loadL 5 0 1 false⟩,
        ⟨some 15, none, [.t 14, .c (.pv (.int .i64 0))], .v (.bin .neq)⟩] [2, 3, 4, 5, 15])
      (.cond (.t 15)
       (.seq
        (.reg [⟨some 16, none, [], .v (.build [.lst [], .lst []] [])⟩,
          ⟨some 17, none, [.t 5], .loadL 5 0 2 true⟩,
          ⟨none, none, [.t 2, .t 16], .storeL 2 0 2⟩,
          ⟨none, none, [.t 3, .t 17], .storeL 3 0 2⟩] [2, 3])
        .ret)
       .skip))
     (.seq
      (.reg [⟨some 6, none, [], .alloc 6 [.lst [], .lst []]⟩] [2, 3, 4, 5, 6])
      (.seq
       (.reg [⟨some 18, none, [.t 4], .v (.mv)⟩,
         ⟨some 19, none, [.t 18, .c (.pv (.int .i64 0))], .callI 119 []⟩,
         ⟨some 7, none, [.t 19], .v (.mv)⟩] [2, 3, 4, 5, 6, 7])
       (.seq
        (.block 0
         g112L0)
        (.seq
         (.seq
          (.reg [⟨some 50, none, [.t 7], .v (.mv)⟩,
            ⟨some 51, none, [.t 50], .v (.nilchk)⟩,
            ⟨some 52, none, [.t 51], .v (.faddr 2)⟩,
            ⟨some 53, none, [.t 52], .loadS 1 false⟩] [2, 3, 5, 6, 7, 53])
          (.cond (.t 53)
           (.seq
            (.reg [⟨some 54, none, [], .v (.build [.lst [], .lst []] [])⟩,
              ⟨some 55, none, [.t 7], .v (.mv)⟩,
              ⟨some 56, none, [.t 55], .v (.nilchk)⟩,
              ⟨some 57, none, [.t 56], .v (.faddr 3)⟩,
              ⟨some 58, none, [.t 57], .loadS 1 false⟩,
              ⟨some 59, none, [.c (.pv (.int .i64 3)), .t 58], .v (.build [.int .i64 0, .int .i64 0] [(0, 1), (1, 1)])⟩,
              ⟨none, none, [.t 2, .t 54], .storeL 2 0 2⟩,
              ⟨none, none, [.t 3, .t 59], .storeL 3 0 2⟩] [2, 3])
            .ret)
           .skip))
         (.seq
          (.seq
           (.reg [⟨some 60, none, [.t 6], .loadL 6 0 2 true⟩,
             ⟨some 61, none, [.t 60], .callP 123⟩,
             ⟨none, none, [.t 5, .t 61], .storeL 5 0 2⟩] [2, 3, 5, 6])
           (.seq
            (.reg [⟨some 62, none, [.t 5], .v (.faddr 0)⟩,
              ⟨some 63, none, [.t 62], .loadL 5 0 1 false⟩,
              ⟨some 64, none, [.t 63, .c (.pv (.int .i64 0))], .v (.bin .neq)⟩] [2, 3, 5, 6, 64])
            (.cond (.t 64)
             (.seq
              (.reg [⟨some 65, none, [], .v (.build [.lst [], .lst []] [])⟩,
                ⟨some 66, none, [.t 5], .loadL 5 0 2 true⟩,
                ⟨none, none, [.t 2, .t 65], .storeL 2 0 2⟩,
                ⟨none, none, [.t 3, .t 66], .storeL 3 0 2⟩] [2, 3])
              .ret)
             .skip)))
          (.seq
           (.reg [⟨some 67, none, [.t 6], .loadL 6 0 2 true⟩,
             ⟨some 68, none, [.t 5], .loadL 5 0 2 true⟩,
             ⟨none, none, [.t 2, .t 67], .storeL 2 0 2⟩,
             ⟨none, none, [.t 3, .t 68], .storeL 3 0 2⟩] [2, 3])
           .ret)))))))))⟩

/- cmp.isNaN[int] -/
def g113 : AFunc := ⟨1, 6, [.t 2],
  (.seq
   (.reg [⟨some 2, none, [.c (.pv (.bool false))], .v (.mv)⟩] [0])
   (.seq
    (.reg [⟨some 3, none, [.t 0], .v (.mv)⟩,
      ⟨some 4, none, [.t 0], .v (.mv)⟩,
      ⟨some 5, none, [.t 3, .t 4], .v (.bin .neq)⟩,
      ⟨some 2, none, [.t 5], .v (.mv)⟩] [2])
    .ret))⟩

/- cmp.isNaN[string] -/
def g114 : AFunc := ⟨1, 6, [.t 2],
  (.seq
   (.reg [⟨some 2, none, [.c (.pv (.bool false))], .v (.mv)⟩] [0])
   (.seq
    (.reg [⟨some 3, none, [.t 0], .v (.mv)⟩,
      ⟨some 4, none, [.t 0], .v (.mv)⟩,
      ⟨some 5, none, [.t 3, .t 4], .v (.bin .neq)⟩,
      ⟨some 2, none, [.t 5], .v (.mv)⟩] [2])
    .ret))⟩

/- slices.IndexFunc[[]int,int] -/
def g115B0 : ACode :=
  (.seq
   (.reg [⟨some 9, none, [.t 8, .t 7], .v (.bin .lss)⟩] [0, 1, 7, 8, 9])
   (.seq
    (.cond (.t 9)
     .skip
     (.exit 0))
    (.seq
     (.block 1
      (.seq
       (.reg [⟨some 10, none, [.t 8], .v (.mv)⟩,
         ⟨some 5, none, [.t 10], .v (.mv)⟩] [0, 1, 5, 7, 8])
       (.seq
        (.reg [⟨some 11, none, [.t 1], .v (.mv)⟩,
          ⟨some 12, none, [.t 0], .v (.mv)⟩,
          ⟨some 13, none, [.t 5], .v (.mv)⟩,
          ⟨some 14, none, [.t 12, .t 13], .v (.iaddr 1)⟩,
          ⟨some 15, none, [.t 14], .loadS 1 false⟩,
          ⟨some 16, none, [.t 11, .t 15], .callV⟩] [0, 1, 5, 7, 8, 16])
        (.cond (.t 16)
         (.seq
          (.reg [⟨some 17, none, [.t 5], .v (.mv)⟩,
            ⟨some 4, none, [.t 17], .v (.mv)⟩] [4])
          .ret)
         .skip))))
     (.reg [⟨some 18, none, [.t 8, .c (.pv (.int .i64 1))], .v (.bin .add)⟩,
       ⟨some 8, none, [.t 18], .v (.mv)⟩] [0, 1, 7, 8]))))
def g115L0 : ACode := .loop [0, 1, 7, 8] g115B0
theorem g115L0_eq {AP : Nat → Option AFunc} {st : St} : cl AP g115L0 st = after (cl AP g115L0) (cl AP g115B0 (norm (restrict [0, 1, 7, 8] st))) := cl_loop
def g115 : AFunc := ⟨2, 19, [.t 4],
  (.seq
   (.reg [⟨some 4, none, [.c (.pv (.int .i64 0))], .v (.mv)⟩] [0, 1])
   (.seq
    (.seq
     (.reg [⟨some 6, none, [.t 0], .v (.mv)⟩,
       ⟨some 7, none, [.t 6], .v (.len)⟩,
       ⟨some 8, none, [.c (.pv (.int .i64 0))], .v (.mv)⟩] [0, 1, 7, 8])
     (.block 0
      g115L0))
    (.seq
     (.reg [⟨some 4, none, [.c (.pv (.int .i64 (-1)))], .v (.mv)⟩] [4])
     .ret)))⟩

/- slices.Index[[]int,int] -/
def g116B0 : ACode :=
  (.seq
   (.reg [⟨some 9, none, [.t 8, .t 7], .v (.bin .lss)⟩] [0, 1, 7, 8, 9])
   (.seq
    (.cond (.t 9)
     .skip
     (.exit 0))
    (.seq
     (.block 1
      (.seq
       (.reg [⟨some 10, none, [.t 8], .v (.mv)⟩,
         ⟨some 5, none, [.t 10], .v (.mv)⟩] [0, 1, 5, 7, 8])
       (.seq
        (.reg [⟨some 11, none, [.t 1], .v (.mv)⟩,
          ⟨some 12, none, [.t 0], .v (.mv)⟩,
          ⟨some 13, none, [.t 5], .v (.mv)⟩,
          ⟨some 14, none, [.t 12, .t 13], .v (.iaddr 1)⟩,
          ⟨some 15, none, [.t 14], .v (.loadE 1 false)⟩,
          ⟨some 16, none, [.t 11, .t 15], .v (.bin .eql)⟩] [0, 1, 5, 7, 8, 16])
        (.cond (.t 16)
         (.seq
          (.reg [⟨some 17, none, [.t 5], .v (.mv)⟩,
            ⟨some 4, none, [.t 17], .v (.mv)⟩] [4])
          .ret)
         .skip))))
     (.reg [⟨some 18, none, [.t 8, .c (.pv (.int .i64 1))], .v (.bin .add)⟩,
       ⟨some 8, none, [.t 18], .v (.mv)⟩] [0, 1, 7, 8]))))
def g116L0 : ACode := .loop [0, 1, 7, 8] g116B0
theorem g116L0_eq {AP : Nat → Option AFunc} {st : St} : cl AP g116L0 st = after (cl AP g116L0) (cl AP g116B0 (norm (restrict [0, 1, 7, 8] st))) := cl_loop
def g116 : AFunc := ⟨2, 19, [.t 4],
  (.seq
   (.reg [⟨some 4, none, [.c (.pv (.int .i64 0))], .v (.mv)⟩] [0, 1])
   (.seq
    (.seq
     (.reg [⟨some 6, none, [.t 0], .v (.mv)⟩,
       ⟨some 7, none, [.t 6], .v (.len)⟩,
       ⟨some 8, none, [.c (.pv (.int .i64 0))], .v (.mv)⟩] [0, 1, 7, 8])
     (.block 0
      g116L0))
    (.seq
     (.reg [⟨some 4, none, [.c (.pv (.int .i64 (-1)))], .v (.mv)⟩] [4])
     .ret)))⟩

/- typedholes/typedholesref2.inner -/
def g117 : AFunc := ⟨1, 17, [.t 2],
  (.seq
   (.reg [⟨some 2, none, [.c (.pv (.bool false))], .v (.mv)⟩] [0])
   (.seq
    (.reg [⟨some 3, none, [.t 0], .v (.mv)⟩,
      ⟨some 4, none, [.t 3], .callP 109⟩,
      ⟨some 5, none, [.t 4], .v (.mv)⟩,
      ⟨some 6, some (5, false), [.t 0], .v (.mv)⟩,
      ⟨some 7, some (5, false), [.t 6], .callP 111⟩,
      ⟨some 8, none, [.t 5, .c (.pv (.bool true)), .t 7], .v (.pick)⟩,
      ⟨some 9, none, [.t 8], .v (.mv)⟩,
      ⟨some 10, some (9, false), [.t 0], .v (.mv)⟩,
      ⟨some 11, some (9, false), [.t 10], .callP 124⟩,
      ⟨some 12, none, [.t 9, .c (.pv (.bool true)), .t 11], .v (.pick)⟩,
      ⟨some 13, none, [.t 12], .v (.mv)⟩,
      ⟨some 14, some (13, false), [.t 0], .v (.mv)⟩,
      ⟨some 15, some (13, false), [.t 14, .c (.pv (.int .u8 95))], .v (.bin .eql)⟩,
      ⟨some 16, none, [.t 13, .c (.pv (.bool true)), .t 15], .v (.pick)⟩,
      ⟨some 2, none, [.t 16], .v (.mv)⟩] [2])
    .ret))⟩


end Go.Ab
