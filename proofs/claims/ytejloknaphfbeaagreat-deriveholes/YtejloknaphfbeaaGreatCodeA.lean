import Derived.Test.YtejloknaphfbeaaGreatAbEv
/-
  The program's functions in slim code, as a program of ours printed them; what they have to do with the given program is proved in the text Impl.
-/
namespace Go.Ab

/- typedholes/typedholeslaw13.SubstAssociates -/
def g8 : AFunc := ⟨2, 55, [.t 4],
  (.seq
   (.reg [⟨some 4, none, [.c (.pv (.bool false))], .v (.mv)⟩] [0, 1])
   (.seq
    (.seq
     (.reg [⟨some 11, none, [], .callP 14⟩,
       ⟨some 12, none, [.t 11], .v (.un .not)⟩] [0, 1, 12])
     (.cond (.t 12)
      (.seq
       (.reg [⟨some 4, none, [.c (.pv (.bool false))], .v (.mv)⟩] [4])
       .ret)
      .skip))
    (.seq
     (.seq
      (.reg [⟨some 13, none, [.t 1], .v (.mv)⟩,
        ⟨some 14, none, [.t 13], .callP 15⟩,
        ⟨some 15, none, [.t 14], .v (.un .not)⟩] [0, 1, 15])
      (.cond (.t 15)
       (.seq
        (.reg [⟨some 4, none, [.c (.pv (.bool true))], .v (.mv)⟩] [4])
        .ret)
       .skip))
     (.seq
      (.reg [⟨some 17, none, [.t 0], .v (.mv)⟩,
        ⟨some 18, none, [.t 1], .v (.mv)⟩,
        ⟨some 19, none, [.t 17, .t 18], .callI 16 []⟩,
        ⟨some 16, none, [.t 19], .v (.mv)⟩,
        ⟨some 20, none, [.t 16], .v (.ext 0)⟩,
        ⟨some 21, none, [.t 16], .v (.ext 1)⟩,
        ⟨some 22, none, [.t 16], .v (.ext 2)⟩,
        ⟨some 23, none, [.t 16], .v (.ext 3)⟩,
        ⟨some 7, none, [], .alloc 7 [.int .i64 0, .str [], .int .i64 0, .int .i64 0, .lst []]⟩,
        ⟨some 5, none, [.t 20], .v (.mv)⟩,
        ⟨some 6, none, [.t 21], .v (.mv)⟩,
        ⟨none, none, [.t 7, .t 22], .storeL 7 0 5⟩,
        ⟨some 8, none, [.t 23], .v (.mv)⟩] [0, 5, 6, 8])
      (.seq
       (.reg [⟨some 24, none, [.t 8], .v (.mv)⟩,
         ⟨some 25, none, [.t 0], .v (.mv)⟩,
         ⟨some 26, none, [.t 25], .callP 32⟩,
         ⟨some 27, none, [.t 24, .t 26, .c (.pv (.int .i64 4))], .callI 37 []⟩,
         ⟨some 9, none, [.t 27], .v (.mv)⟩] [5, 6, 9])
       (.seq
        (.reg [⟨some 28, none, [.c (.pv (.int .i64 0)), .c (.pv (.int .i64 1)), .c (.pv (.int .i64 2)), .c (.pv (.int .i64 3)), .c (.pv (.int .i64 4))], .v (.bslice 1)⟩,
          ⟨some 10, none, [.t 28], .v (.mv)⟩] [5, 6, 9, 10])
        (.seq
         (.reg [⟨some 29, none, [.t 5], .v (.mv)⟩,
           ⟨some 30, none, [.t 6], .v (.mv)⟩,
           ⟨some 31, none, [.t 29, .t 30], .callP 17⟩,
           ⟨some 32, none, [.t 9], .v (.mv)⟩,
           ⟨some 33, none, [.t 31, .t 32], .callP 17⟩,
           ⟨some 34, none, [.t 5], .v (.mv)⟩,
           ⟨some 35, none, [.t 6], .v (.mv)⟩,
           ⟨some 36, none, [.t 9], .v (.mv)⟩,
           ⟨some 37, none, [.t 35, .t 36], .callP 17⟩,
           ⟨some 38, none, [.t 34, .t 37], .callP 17⟩,
           ⟨some 39, none, [.t 10], .v (.mv)⟩,
           ⟨some 40, none, [.t 33, .t 38, .t 39], .callP 38⟩,
           ⟨some 41, none, [.t 40], .v (.mv)⟩,
           ⟨some 42, some (41, true), [.t 5], .v (.mv)⟩,
           ⟨some 43, some (41, true), [.t 42, .c (.clp [])], .callP 17⟩,
           ⟨some 44, some (41, true), [.t 5], .v (.mv)⟩,
           ⟨some 45, some (41, true), [.t 10], .v (.mv)⟩,
           ⟨some 46, some (41, true), [.t 43, .t 44, .t 45], .callP 38⟩,
           ⟨some 47, none, [.t 41, .t 46, .c (.pv (.bool false))], .v (.pick)⟩,
           ⟨some 48, none, [.t 47], .v (.mv)⟩,
           ⟨some 49, some (48, true), [.t 5], .v (.mv)⟩,
           ⟨some 50, some (48, true), [.c (.clp []), .t 49], .callP 17⟩,
           ⟨some 51, some (48, true), [.t 5], .v (.mv)⟩,
           ⟨some 52, some (48, true), [.t 10], .v (.mv)⟩,
           ⟨some 53, some (48, true), [.t 50, .t 51, .t 52], .callP 38⟩,
           ⟨some 54, none, [.t 48, .t 53, .c (.pv (.bool false))], .v (.pick)⟩,
           ⟨some 4, none, [.t 54], .v (.mv)⟩] [4])
         .ret))))))), none, false⟩

/- typedholes/typedholeslaw13.SubstEqual -/
def g9B0 : ACode :=
  (.seq
   (.seq
    (.reg [⟨some 31, none, [.t 12], .v (.mv)⟩,
      ⟨some 32, none, [.t 2], .v (.mv)⟩,
      ⟨some 33, none, [.t 32], .v (.len)⟩,
      ⟨some 34, none, [.t 31, .t 33], .v (.bin .lss)⟩] [2, 7, 8, 11, 12, 34])
    (.cond (.t 34)
     .skip
     (.exit 0)))
   (.seq
    (.block 1
     (.reg [⟨some 37, none, [.t 11], .v (.mv)⟩,
       ⟨some 38, none, [.t 2], .v (.mv)⟩,
       ⟨some 39, none, [.t 12], .v (.mv)⟩,
       ⟨some 40, none, [.t 38, .t 39], .v (.iaddr 1)⟩,
       ⟨some 41, none, [.t 40], .v (.loadE 1 false)⟩,
       ⟨some 42, none, [.t 41, .c (.pv (.int .i64 6))], .callP 26⟩,
       ⟨some 43, none, [.t 42], .v (.bslice 1)⟩,
       ⟨some 44, none, [.t 37, .t 43], .append 1 8⟩,
       ⟨some 11, none, [.t 44], .v (.mv)⟩] [2, 7, 8, 11, 12]))
    (.reg [⟨some 35, none, [.t 12], .v (.mv)⟩,
      ⟨some 36, none, [.t 35, .c (.pv (.int .i64 1))], .v (.bin .add)⟩,
      ⟨some 12, none, [.t 36], .v (.mv)⟩] [2, 7, 8, 11, 12])))
def g9L0 : ACode := .loop [2, 7, 8, 11, 12] g9B0
theorem g9L0_eq {AP : Nat → Option AFunc} {st : St} : cl AP g9L0 st = after (cl AP g9L0) (cl AP g9B0 (norm (restrict [2, 7, 8, 11, 12] st))) := cl_loop
def g9 : AFunc := ⟨3, 60, [.t 6],
  (.seq
   (.reg [⟨some 6, none, [.c (.pv (.bool false))], .v (.mv)⟩] [0, 1, 2])
   (.seq
    (.seq
     (.reg [⟨some 13, none, [], .callP 14⟩,
       ⟨some 14, none, [.t 13], .v (.un .not)⟩] [0, 1, 2, 14])
     (.cond (.t 14)
      (.seq
       (.reg [⟨some 6, none, [.c (.pv (.bool false))], .v (.mv)⟩] [6])
       .ret)
      .skip))
    (.seq
     (.seq
      (.reg [⟨some 15, none, [.t 1], .v (.mv)⟩,
        ⟨some 16, none, [.t 15], .callP 15⟩,
        ⟨some 17, none, [.t 16], .v (.un .not)⟩,
        ⟨some 18, none, [.t 17], .v (.mv)⟩,
        ⟨some 19, some (18, false), [.t 2], .v (.mv)⟩,
        ⟨some 20, some (18, false), [.t 19], .v (.len)⟩,
        ⟨some 21, some (18, false), [.t 20, .c (.pv (.int .i64 6))], .v (.bin .gtr)⟩,
        ⟨some 22, none, [.t 18, .c (.pv (.bool true)), .t 21], .v (.pick)⟩] [0, 1, 2, 22])
      (.cond (.t 22)
       (.seq
        (.reg [⟨some 6, none, [.c (.pv (.bool true))], .v (.mv)⟩] [6])
        .ret)
       .skip))
     (.seq
      (.reg [⟨some 24, none, [.t 0], .v (.mv)⟩,
        ⟨some 25, none, [.t 1], .v (.mv)⟩,
        ⟨some 26, none, [.t 24, .t 25], .callI 16 []⟩,
        ⟨some 23, none, [.t 26], .v (.mv)⟩,
        ⟨some 27, none, [.t 23], .v (.ext 0)⟩,
        ⟨some 28, none, [.t 23], .v (.ext 1)⟩,
        ⟨some 29, none, [.t 23], .v (.ext 2)⟩,
        ⟨some 30, none, [.t 23], .v (.ext 3)⟩,
        ⟨some 9, none, [], .alloc 9 [.int .i64 0, .str [], .int .i64 0, .int .i64 0, .lst []]⟩,
        ⟨some 7, none, [.t 27], .v (.mv)⟩,
        ⟨some 8, none, [.t 28], .v (.mv)⟩,
        ⟨none, none, [.t 9, .t 29], .storeL 9 0 5⟩,
        ⟨some 10, none, [.t 30], .v (.mv)⟩] [2, 7, 8])
      (.seq
       (.reg [⟨some 11, none, [.c (.clp [])], .v (.mv)⟩] [2, 7, 8, 11])
       (.seq
        (.seq
         (.reg [⟨some 12, none, [.c (.pv (.int .i64 0))], .v (.mv)⟩] [2, 7, 8, 11, 12])
         (.block 0
          g9L0))
        (.seq
         (.reg [⟨some 45, none, [.t 7], .v (.mv)⟩,
           ⟨some 46, none, [.t 8], .v (.mv)⟩,
           ⟨some 47, none, [.t 11], .v (.mv)⟩,
           ⟨some 48, none, [.t 45, .t 46, .t 47], .callP 38⟩,
           ⟨some 49, none, [.t 7], .v (.mv)⟩,
           ⟨some 50, none, [.t 8], .v (.mv)⟩,
           ⟨some 51, none, [.t 11], .v (.mv)⟩,
           ⟨some 52, none, [.t 49, .t 50, .t 51], .callP 39⟩,
           ⟨some 53, none, [.t 48, .t 52], .v (.beq false)⟩,
           ⟨some 54, none, [.t 53], .v (.mv)⟩,
           ⟨some 55, some (54, true), [.t 7], .v (.mv)⟩,
           ⟨some 56, some (54, true), [.t 7], .v (.mv)⟩,
           ⟨some 57, some (54, true), [.t 11], .v (.mv)⟩,
           ⟨some 58, some (54, true), [.t 55, .t 56, .t 57], .callP 38⟩,
           ⟨some 59, none, [.t 54, .t 58, .c (.pv (.bool false))], .v (.pick)⟩,
           ⟨some 6, none, [.t 59], .v (.mv)⟩] [6])
         .ret))))))), none, false⟩

/- typedholes/typedholesmake.Few -/
def g15 : AFunc := ⟨1, 6, [.t 2],
  (.seq
   (.reg [⟨some 2, none, [.c (.pv (.bool false))], .v (.mv)⟩] [0])
   (.seq
    (.reg [⟨some 3, none, [.t 0], .v (.mv)⟩,
      ⟨some 4, none, [.t 3], .v (.len)⟩,
      ⟨some 5, none, [.t 4, .c (.pv (.int .i64 60))], .v (.bin .leq)⟩,
      ⟨some 2, none, [.t 5], .v (.mv)⟩] [2])
    .ret)), none, false⟩

/- typedholes/typedholesref3.Equal -/
def g20 : AFunc := ⟨2, 36, [.t 4],
  (.seq
   (.reg [⟨some 2, none, [.t 0], .box 2 5⟩,
     ⟨some 3, none, [.t 1], .box 3 5⟩,
     ⟨some 4, none, [.c (.pv (.bool false))], .v (.mv)⟩] [2, 3])
   (.seq
    (.seq
     (.reg [⟨some 5, none, [.t 2], .v (.faddr 0)⟩,
       ⟨some 6, none, [.t 5], .loadL 2 0 1 false⟩,
       ⟨some 7, none, [.t 3], .v (.faddr 0)⟩,
       ⟨some 8, none, [.t 7], .loadL 3 0 1 false⟩,
       ⟨some 9, none, [.t 6, .t 8], .v (.bin .neq)⟩,
       ⟨some 10, none, [.t 9], .v (.mv)⟩,
       ⟨some 11, some (10, false), [.t 2], .v (.faddr 1)⟩,
       ⟨some 12, some (10, false), [.t 11], .loadL 2 1 1 false⟩,
       ⟨some 13, some (10, false), [.t 3], .v (.faddr 1)⟩,
       ⟨some 14, some (10, false), [.t 13], .loadL 3 1 1 false⟩,
       ⟨some 15, some (10, false), [.t 12, .t 14], .v (.bin .neq)⟩,
       ⟨some 16, none, [.t 10, .c (.pv (.bool true)), .t 15], .v (.pick)⟩,
       ⟨some 17, none, [.t 16], .v (.mv)⟩,
       ⟨some 18, some (17, false), [.t 2], .v (.faddr 2)⟩,
       ⟨some 19, some (17, false), [.t 18], .loadL 2 2 1 false⟩,
       ⟨some 20, some (17, false), [.t 3], .v (.faddr 2)⟩,
       ⟨some 21, some (17, false), [.t 20], .loadL 3 2 1 false⟩,
       ⟨some 22, some (17, false), [.t 19, .t 21], .v (.bin .neq)⟩,
       ⟨some 23, none, [.t 17, .c (.pv (.bool true)), .t 22], .v (.pick)⟩,
       ⟨some 24, none, [.t 23], .v (.mv)⟩,
       ⟨some 25, some (24, false), [.t 2], .v (.faddr 3)⟩,
       ⟨some 26, some (24, false), [.t 25], .loadL 2 3 1 false⟩,
       ⟨some 27, some (24, false), [.t 3], .v (.faddr 3)⟩,
       ⟨some 28, some (24, false), [.t 27], .loadL 3 3 1 false⟩,
       ⟨some 29, some (24, false), [.t 26, .t 28], .v (.bin .neq)⟩,
       ⟨some 30, none, [.t 24, .c (.pv (.bool true)), .t 29], .v (.pick)⟩] [2, 3, 30])
     (.cond (.t 30)
      (.seq
       (.reg [⟨some 4, none, [.c (.pv (.bool false))], .v (.mv)⟩] [4])
       .ret)
      .skip))
    (.seq
     (.reg [⟨some 31, none, [.t 2], .v (.faddr 4)⟩,
       ⟨some 32, none, [.t 31], .loadL 2 4 1 false⟩,
       ⟨some 33, none, [.t 3], .v (.faddr 4)⟩,
       ⟨some 34, none, [.t 33], .loadL 3 4 1 false⟩,
       ⟨some 35, none, [.t 32, .t 34], .callP 57⟩,
       ⟨some 4, none, [.t 35], .v (.mv)⟩] [4])
     .ret))), none, false⟩

/- typedholes/typedholesmake.Mod -/
def g26 : AFunc := ⟨2, 16, [.t 4],
  (.seq
   (.reg [⟨some 4, none, [.c (.pv (.int .i64 0))], .v (.mv)⟩] [0, 1])
   (.seq
    (.seq
     (.reg [⟨some 5, none, [.t 1], .v (.mv)⟩,
       ⟨some 6, none, [.t 5, .c (.pv (.int .i64 1))], .v (.bin .lss)⟩] [0, 1, 6])
     (.cond (.t 6)
      (.seq
       (.reg [⟨some 4, none, [.c (.pv (.int .i64 0))], .v (.mv)⟩] [4])
       .ret)
      .skip))
    (.seq
     (.reg [⟨some 7, none, [.t 0], .v (.mv)⟩,
       ⟨some 8, none, [.t 1], .v (.mv)⟩,
       ⟨some 9, none, [.t 7, .t 8], .v (.bin .rem)⟩,
       ⟨some 0, none, [.t 9], .v (.mv)⟩] [0, 1])
     (.seq
      (.seq
       (.reg [⟨some 10, none, [.t 0], .v (.mv)⟩,
         ⟨some 11, none, [.t 10, .c (.pv (.int .i64 0))], .v (.bin .lss)⟩] [0, 1, 11])
       (.cond (.t 11)
        (.reg [⟨some 12, none, [.t 0], .v (.mv)⟩,
          ⟨some 13, none, [.t 1], .v (.mv)⟩,
          ⟨some 14, none, [.t 12, .t 13], .v (.bin .add)⟩,
          ⟨some 0, none, [.t 14], .v (.mv)⟩] [0])
        .skip))
      (.seq
       (.reg [⟨some 15, none, [.t 0], .v (.mv)⟩,
         ⟨some 4, none, [.t 15], .v (.mv)⟩] [4])
       .ret))))), none, false⟩

/- (*typedholes/typedholesmake.Tape).Type -/
def g27B0 : ACode :=
  (.seq
   (.seq
    (.reg [⟨some 61, none, [.t 12], .v (.mv)⟩,
      ⟨some 62, none, [.t 10], .v (.faddr 2)⟩,
      ⟨some 63, none, [.t 62], .loadL 10 2 1 false⟩,
      ⟨some 64, none, [.t 63], .v (.len)⟩,
      ⟨some 65, none, [.t 61, .t 64], .v (.bin .lss)⟩] [0, 1, 2, 3, 8, 10, 11, 12, 65])
    (.cond (.t 65)
     .skip
     (.exit 1)))
   (.seq
    (.block 2
     (.reg [⟨some 68, none, [.t 11], .v (.mv)⟩,
       ⟨some 69, none, [.t 0], .v (.mv)⟩,
       ⟨some 70, none, [.t 1], .v (.mv)⟩,
       ⟨some 71, none, [.t 2], .v (.mv)⟩,
       ⟨some 72, none, [.t 3], .v (.mv)⟩,
       ⟨some 73, none, [.t 72, .c (.pv (.int .i64 1))], .v (.bin .sub)⟩,
       ⟨some 74, none, [.t 69, .t 70, .t 71, .t 73], .callI 27 []⟩,
       ⟨some 75, none, [.t 74], .v (.bslice 5)⟩,
       ⟨some 76, none, [.t 68, .t 75], .append 5 64⟩,
       ⟨some 11, none, [.t 76], .v (.mv)⟩] [0, 1, 2, 3, 8, 10, 11, 12]))
    (.reg [⟨some 66, none, [.t 12], .v (.mv)⟩,
      ⟨some 67, none, [.t 66, .c (.pv (.int .i64 1))], .v (.bin .add)⟩,
      ⟨some 12, none, [.t 67], .v (.mv)⟩] [0, 1, 2, 3, 8, 10, 11, 12])))
def g27L0 : ACode := .loop [0, 1, 2, 3, 8, 10, 11, 12] g27B0
theorem g27L0_eq {AP : Nat → Option AFunc} {st : St} : cl AP g27L0 st = after (cl AP g27L0) (cl AP g27B0 (norm (restrict [0, 1, 2, 3, 8, 10, 11, 12] st))) := cl_loop
def g27 : AFunc := ⟨4, 95, [.c 8 5 true],
  (.seq
   (.reg [⟨some 8, none, [], .alloc 8 [.int .i64 0, .str [], .int .i64 0, .int .i64 0, .lst []]⟩] [0, 1, 2, 3, 8])
   (.seq
    (.reg [⟨some 14, none, [.t 0], .v (.mv)⟩,
      ⟨some 15, none, [.t 14, .c (.pv (.int .i64 7))], .callI 68 []⟩,
      ⟨some 9, none, [.t 15], .v (.mv)⟩] [0, 1, 2, 3, 8, 9])
    (.seq
     (.block 0
      (.seq
       (.reg [⟨some 17, none, [.t 9], .v (.mv)⟩,
         ⟨some 18, none, [.t 17, .c (.pv (.int .i64 3))], .v (.bin .lss)⟩,
         ⟨some 19, none, [.t 18], .v (.mv)⟩,
         ⟨some 20, some (19, true), [.t 2], .v (.mv)⟩,
         ⟨some 21, some (19, true), [.t 20], .v (.len)⟩,
         ⟨some 22, some (19, true), [.t 21, .c (.pv (.int .i64 0))], .v (.bin .gtr)⟩,
         ⟨some 23, none, [.t 19, .t 22, .c (.pv (.bool false))], .v (.pick)⟩,
         ⟨some 16, none, [.t 23], .v (.mv)⟩] [0, 1, 2, 3, 8, 9, 16])
       (.cond (.t 16)
        (.seq
         (.reg [⟨some 24, none, [.t 2], .v (.mv)⟩,
           ⟨some 25, none, [.t 0], .v (.mv)⟩,
           ⟨some 26, none, [.t 2], .v (.mv)⟩,
           ⟨some 27, none, [.t 26], .v (.len)⟩,
           ⟨some 28, none, [.t 25, .t 27], .callI 68 []⟩,
           ⟨some 29, none, [.t 24, .t 28], .v (.iaddr 5)⟩,
           ⟨some 30, none, [.t 29], .loadS 5 true⟩,
           ⟨none, none, [.t 8, .t 30], .storeL 8 0 5⟩] [8])
         .ret)
        (.seq
         (.reg [⟨some 32, none, [.t 9], .v (.mv)⟩,
           ⟨some 33, none, [.t 32, .c (.pv (.int .i64 4))], .v (.bin .lss)⟩,
           ⟨some 34, none, [.t 33], .v (.mv)⟩,
           ⟨some 35, some (34, false), [.t 3], .v (.mv)⟩,
           ⟨some 36, some (34, false), [.t 35, .c (.pv (.int .i64 1))], .v (.bin .lss)⟩,
           ⟨some 37, none, [.t 34, .c (.pv (.bool true)), .t 36], .v (.pick)⟩,
           ⟨some 31, none, [.t 37], .v (.mv)⟩] [0, 1, 2, 3, 8, 9, 31])
         (.cond (.t 31)
          (.seq
           (.reg [⟨some 38, none, [], .callP 34⟩,
             ⟨none, none, [.t 8, .t 38], .storeL 8 0 5⟩] [8])
           .ret)
          (.seq
           (.seq
            (.reg [⟨some 40, none, [.t 9], .v (.mv)⟩,
              ⟨some 41, none, [.t 40, .c (.pv (.int .i64 4))], .v (.bin .eql)⟩,
              ⟨some 42, none, [.t 41], .v (.mv)⟩,
              ⟨some 43, some (42, true), [.t 1], .v (.mv)⟩,
              ⟨some 44, some (42, true), [.t 43], .v (.len)⟩,
              ⟨some 45, some (42, true), [.t 44, .c (.pv (.int .i64 0))], .v (.bin .gtr)⟩,
              ⟨some 46, none, [.t 42, .t 45, .c (.pv (.bool false))], .v (.pick)⟩,
              ⟨some 39, none, [.t 46], .v (.mv)⟩] [0, 1, 2, 3, 8, 9, 39])
            (.cond (.t 39)
             .skip
             (.reg [⟨some 47, none, [.t 9], .v (.mv)⟩,
               ⟨some 48, none, [.t 47, .c (.pv (.int .i64 5))], .v (.bin .eql)⟩,
               ⟨some 49, none, [.t 48], .v (.mv)⟩,
               ⟨some 50, some (49, true), [.t 1], .v (.mv)⟩,
               ⟨some 51, some (49, true), [.t 50], .v (.len)⟩,
               ⟨some 52, some (49, true), [.t 51, .c (.pv (.int .i64 0))], .v (.bin .gtr)⟩,
               ⟨some 53, none, [.t 49, .t 52, .c (.pv (.bool false))], .v (.pick)⟩,
               ⟨some 39, none, [.t 53], .v (.mv)⟩] [0, 1, 2, 3, 8, 39])))
           (.cond (.t 39)
            (.seq
             (.reg [⟨some 54, none, [.t 1], .v (.mv)⟩,
               ⟨some 55, none, [.t 0], .v (.mv)⟩,
               ⟨some 56, none, [.t 1], .v (.mv)⟩,
               ⟨some 57, none, [.t 56], .v (.len)⟩,
               ⟨some 58, none, [.t 55, .t 57], .callI 68 []⟩,
               ⟨some 59, none, [.t 54, .t 58], .v (.iaddr 4)⟩,
               ⟨some 60, none, [.t 59], .loadS 4 true⟩,
               ⟨some 10, none, [], .alloc 10 [.int .i64 0, .str [], .lst [], .lst []]⟩,
               ⟨none, none, [.t 10, .t 60], .storeL 10 0 4⟩] [0, 1, 2, 3, 8, 10])
             (.seq
              (.reg [⟨some 11, none, [.c (.clp [])], .v (.mv)⟩] [0, 1, 2, 3, 8, 10, 11])
              (.seq
               (.seq
                (.reg [⟨some 12, none, [.c (.pv (.int .i64 0))], .v (.mv)⟩] [0, 1, 2, 3, 8, 10, 11, 12])
                (.block 1
                 g27L0))
               (.seq
                (.reg [⟨some 77, none, [.t 10], .v (.faddr 1)⟩,
                  ⟨some 78, none, [.t 77], .loadL 10 1 1 false⟩,
                  ⟨some 79, none, [.t 11], .v (.mv)⟩,
                  ⟨some 80, none, [.t 78, .t 79], .callP 62⟩,
                  ⟨none, none, [.t 8, .t 80], .storeL 8 0 5⟩] [8])
                .ret))))
            .skip)))))))
     (.seq
      (.reg [⟨some 81, none, [.t 0], .v (.mv)⟩,
        ⟨some 82, none, [.t 1], .v (.mv)⟩,
        ⟨some 83, none, [.t 2], .v (.mv)⟩,
        ⟨some 84, none, [.t 3], .v (.mv)⟩,
        ⟨some 85, none, [.t 84, .c (.pv (.int .i64 1))], .v (.bin .sub)⟩,
        ⟨some 86, none, [.t 81, .t 82, .t 83, .t 85], .callI 27 []⟩,
        ⟨some 13, none, [], .alloc 13 [.int .i64 0, .str [], .int .i64 0, .int .i64 0, .lst []]⟩,
        ⟨none, none, [.t 13, .t 86], .storeL 13 0 5⟩] [0, 1, 2, 3, 8, 13])
      (.seq
       (.reg [⟨some 87, none, [.t 13], .loadL 13 0 5 true⟩,
         ⟨some 88, none, [.t 0], .v (.mv)⟩,
         ⟨some 89, none, [.t 1], .v (.mv)⟩,
         ⟨some 90, none, [.t 2], .v (.mv)⟩,
         ⟨some 91, none, [.t 3], .v (.mv)⟩,
         ⟨some 92, none, [.t 91, .c (.pv (.int .i64 1))], .v (.bin .sub)⟩,
         ⟨some 93, none, [.t 88, .t 89, .t 90, .t 92], .callI 27 []⟩,
         ⟨some 94, none, [.t 87, .t 93], .callP 69⟩,
         ⟨none, none, [.t 8, .t 94], .storeL 8 0 5⟩] [8])
       .ret))))), none, false⟩

/- typedholes/types.Valid -/
def g29 : AFunc := ⟨1, 92, [.t 2],
  (.seq
   (.reg [⟨some 1, none, [.t 0], .box 1 5⟩,
     ⟨some 2, none, [.c (.pv (.bool false))], .v (.mv)⟩] [1])
   (.seq
    (.reg [⟨some 4, none, [.t 1], .v (.faddr 1)⟩,
      ⟨some 5, none, [.t 4], .loadL 1 1 1 false⟩,
      ⟨some 6, none, [.t 5, .c (.pv (.str []))], .v (.bin .eql)⟩,
      ⟨some 7, none, [.t 6], .v (.mv)⟩,
      ⟨some 8, some (7, true), [.t 1], .v (.faddr 4)⟩,
      ⟨some 9, some (7, true), [.t 8], .loadL 1 4 1 false⟩,
      ⟨some 10, some (7, true), [.t 9], .v (.len)⟩,
      ⟨some 11, some (7, true), [.t 10, .c (.pv (.int .i64 0))], .v (.bin .eql)⟩,
      ⟨some 12, none, [.t 7, .t 11, .c (.pv (.bool false))], .v (.pick)⟩,
      ⟨some 13, none, [.t 12], .v (.mv)⟩,
      ⟨some 14, some (13, true), [.t 1], .v (.faddr 2)⟩,
      ⟨some 15, some (13, true), [.t 14], .loadL 1 2 1 false⟩,
      ⟨some 16, some (13, true), [.t 15, .c (.pv (.int .i64 0))], .v (.bin .geq)⟩,
      ⟨some 17, none, [.t 13, .t 16, .c (.pv (.bool false))], .v (.pick)⟩,
      ⟨some 18, none, [.t 17], .v (.mv)⟩,
      ⟨some 19, some (18, true), [.t 1], .v (.faddr 2)⟩,
      ⟨some 20, some (18, true), [.t 19], .loadL 1 2 1 false⟩,
      ⟨some 21, some (18, true), [.t 20, .c (.pv (.int .i64 1000000))], .v (.bin .leq)⟩,
      ⟨some 22, none, [.t 18, .t 21, .c (.pv (.bool false))], .v (.pick)⟩,
      ⟨some 3, none, [.t 22], .v (.mv)⟩] [1, 3])
    (.seq
     (.seq
      (.reg [⟨some 23, none, [.t 1], .v (.faddr 0)⟩,
        ⟨some 24, none, [.t 23], .loadL 1 0 1 false⟩] [1, 3, 24])
      (.block 0
       (.seq
        (.seq
         (.reg [⟨some 26, none, [.t 24, .c (.pv (.int .i64 1))], .v (.bin .eql)⟩,
           ⟨some 25, none, [.t 26], .v (.mv)⟩] [1, 3, 24, 25])
         (.cond (.t 25)
          .skip
          (.reg [⟨some 27, none, [.t 24, .c (.pv (.int .i64 2))], .v (.bin .eql)⟩,
            ⟨some 25, none, [.t 27], .v (.mv)⟩] [1, 3, 24, 25])))
        (.cond (.t 25)
         (.seq
          (.reg [⟨some 28, none, [.t 3], .v (.mv)⟩,
            ⟨some 29, none, [.t 28], .v (.mv)⟩,
            ⟨some 30, some (29, true), [.t 1], .v (.faddr 3)⟩,
            ⟨some 31, some (29, true), [.t 30], .loadL 1 3 1 false⟩,
            ⟨some 32, some (29, true), [.t 31, .c (.pv (.int .i64 0))], .v (.bin .eql)⟩,
            ⟨some 33, none, [.t 29, .t 32, .c (.pv (.bool false))], .v (.pick)⟩,
            ⟨some 2, none, [.t 33], .v (.mv)⟩] [2])
          .ret)
         (.seq
          (.reg [⟨some 35, none, [.t 24, .c (.pv (.int .i64 3))], .v (.bin .eql)⟩,
            ⟨some 34, none, [.t 35], .v (.mv)⟩] [1, 3, 24, 34])
          (.cond (.t 34)
           (.seq
            (.reg [⟨some 36, none, [.t 3], .v (.mv)⟩,
              ⟨some 37, none, [.t 36], .v (.mv)⟩,
              ⟨some 38, some (37, true), [.t 1], .v (.faddr 3)⟩,
              ⟨some 39, some (37, true), [.t 38], .loadL 1 3 1 false⟩,
              ⟨some 40, some (37, true), [.t 39, .c (.pv (.int .i64 (-1)))], .v (.bin .geq)⟩,
              ⟨some 41, none, [.t 37, .t 40, .c (.pv (.bool false))], .v (.pick)⟩,
              ⟨some 42, none, [.t 41], .v (.mv)⟩,
              ⟨some 43, some (42, true), [.t 1], .v (.faddr 3)⟩,
              ⟨some 44, some (42, true), [.t 43], .loadL 1 3 1 false⟩,
              ⟨some 45, some (42, true), [.t 44, .c (.pv (.int .i64 1000000))], .v (.bin .leq)⟩,
              ⟨some 46, none, [.t 42, .t 45, .c (.pv (.bool false))], .v (.pick)⟩,
              ⟨some 2, none, [.t 46], .v (.mv)⟩] [2])
            .ret)
           (.seq
            (.reg [⟨some 48, none, [.t 24, .c (.pv (.int .i64 5))], .v (.bin .eql)⟩,
              ⟨some 47, none, [.t 48], .v (.mv)⟩] [1, 24, 47])
            (.cond (.t 47)
             (.seq
              (.reg [⟨some 49, none, [.t 1], .v (.faddr 4)⟩,
                ⟨some 50, none, [.t 49], .loadL 1 4 1 false⟩,
                ⟨some 51, none, [.t 50], .v (.len)⟩,
                ⟨some 52, none, [.t 51, .c (.pv (.int .i64 0))], .v (.bin .eql)⟩,
                ⟨some 53, none, [.t 52], .v (.mv)⟩,
                ⟨some 54, some (53, true), [.t 1], .v (.faddr 2)⟩,
                ⟨some 55, some (53, true), [.t 54], .loadL 1 2 1 false⟩,
                ⟨some 56, some (53, true), [.t 55, .c (.pv (.int .i64 0))], .v (.bin .eql)⟩,
                ⟨some 57, none, [.t 53, .t 56, .c (.pv (.bool false))], .v (.pick)⟩,
                ⟨some 58, none, [.t 57], .v (.mv)⟩,
                ⟨some 59, some (58, true), [.t 1], .v (.faddr 3)⟩,
                ⟨some 60, some (58, true), [.t 59], .loadL 1 3 1 false⟩,
                ⟨some 61, some (58, true), [.t 60, .c (.pv (.int .i64 0))], .v (.bin .eql)⟩,
                ⟨some 62, none, [.t 58, .t 61, .c (.pv (.bool false))], .v (.pick)⟩,
                ⟨some 63, none, [.t 62], .v (.mv)⟩,
                ⟨some 64, some (63, true), [.t 1], .v (.faddr 1)⟩,
                ⟨some 65, some (63, true), [.t 64], .loadL 1 1 1 false⟩,
                ⟨some 66, some (63, true), [.t 65, .c (.pv (.int .u8 97)), .c (.pv (.int .u8 122))], .callP 73⟩,
                ⟨some 67, none, [.t 63, .t 66, .c (.pv (.bool false))], .v (.pick)⟩,
                ⟨some 2, none, [.t 67], .v (.mv)⟩] [2])
              .ret)
             (.seq
              (.reg [⟨some 69, none, [.t 24, .c (.pv (.int .i64 4))], .v (.bin .eql)⟩,
                ⟨some 68, none, [.t 69], .v (.mv)⟩] [1, 68])
              (.cond (.t 68)
               (.seq
                (.reg [⟨some 70, none, [.t 1], .v (.faddr 2)⟩,
                  ⟨some 71, none, [.t 70], .loadL 1 2 1 false⟩,
                  ⟨some 72, none, [.t 71, .c (.pv (.int .i64 0))], .v (.bin .eql)⟩,
                  ⟨some 73, none, [.t 72], .v (.mv)⟩,
                  ⟨some 74, some (73, true), [.t 1], .v (.faddr 3)⟩,
                  ⟨some 75, some (73, true), [.t 74], .loadL 1 3 1 false⟩,
                  ⟨some 76, some (73, true), [.t 75, .c (.pv (.int .i64 0))], .v (.bin .eql)⟩,
                  ⟨some 77, none, [.t 73, .t 76, .c (.pv (.bool false))], .v (.pick)⟩,
                  ⟨some 78, none, [.t 77], .v (.mv)⟩,
                  ⟨some 79, some (78, true), [.t 1], .v (.faddr 1)⟩,
                  ⟨some 80, some (78, true), [.t 79], .loadL 1 1 1 false⟩,
                  ⟨some 81, some (78, true), [.t 1], .v (.faddr 4)⟩,
                  ⟨some 82, some (78, true), [.t 81], .loadL 1 4 1 false⟩,
                  ⟨some 83, some (78, true), [.t 82], .v (.len)⟩,
                  ⟨some 84, some (78, true), [.t 80, .t 83], .callP 74⟩,
                  ⟨some 85, none, [.t 78, .t 84, .c (.pv (.bool false))], .v (.pick)⟩,
                  ⟨some 86, none, [.t 85], .v (.mv)⟩,
                  ⟨some 87, some (86, true), [.t 1], .v (.faddr 4)⟩,
                  ⟨some 88, some (86, true), [.t 87], .loadL 1 4 1 false⟩,
                  ⟨some 89, some (86, true), [.t 88, .c (.fn 76 [])], .callI 75 []⟩,
                  ⟨some 90, some (86, true), [.t 89], .v (.un .not)⟩,
                  ⟨some 91, none, [.t 86, .t 90, .c (.pv (.bool false))], .v (.pick)⟩,
                  ⟨some 2, none, [.t 91], .v (.mv)⟩] [2])
                .ret)
               .skip))))))))))
     (.seq
      (.reg [⟨some 2, none, [.c (.pv (.bool false))], .v (.mv)⟩] [2])
      .ret)))), none, false⟩

/- typedholes/typedholesmake.Datas -/
def g32B0 : ACode :=
  (.seq
   (.seq
    (.reg [⟨some 21, none, [.t 5], .v (.mv)⟩,
      ⟨some 22, none, [.t 3], .v (.mv)⟩,
      ⟨some 23, none, [.t 22], .v (.len)⟩,
      ⟨some 24, none, [.t 21, .t 23], .v (.bin .lss)⟩] [0, 3, 4, 5, 24])
    (.cond (.t 24)
     .skip
     (.exit 0)))
   (.seq
    (.block 1
     (.seq
      (.reg [⟨some 27, none, [.t 5], .v (.mv)⟩,
        ⟨some 28, none, [.t 27, .c (.pv (.int .i64 1))], .v (.bin .neq)⟩,
        ⟨some 29, none, [.t 28], .v (.mv)⟩,
        ⟨some 30, some (29, true), [.t 0], .v (.mv)⟩,
        ⟨some 31, some (29, true), [.t 5], .v (.mv)⟩,
        ⟨some 32, some (29, true), [.t 31], .v (.conv .u64)⟩,
        ⟨some 33, some (29, true), [.t 30, .t 32], .v (.bin .shr)⟩,
        ⟨some 34, some (29, true), [.t 33, .c (.pv (.int .i64 1))], .v (.bin .and)⟩,
        ⟨some 35, some (29, true), [.t 34, .c (.pv (.int .i64 1))], .v (.bin .eql)⟩,
        ⟨some 36, none, [.t 29, .t 35, .c (.pv (.bool false))], .v (.pick)⟩] [0, 3, 4, 5, 36])
      (.cond (.t 36)
       (.reg [⟨some 37, none, [.t 4], .v (.mv)⟩,
         ⟨some 38, none, [.t 3], .v (.mv)⟩,
         ⟨some 39, none, [.t 5], .v (.mv)⟩,
         ⟨some 40, none, [.t 38, .t 39], .v (.iaddr 4)⟩,
         ⟨some 41, none, [.t 40], .v (.loadE 4 true)⟩,
         ⟨some 42, none, [.t 41], .v (.bslice 4)⟩,
         ⟨some 43, none, [.t 37, .t 42], .append 4 72⟩,
         ⟨some 4, none, [.t 43], .v (.mv)⟩] [0, 3, 4, 5])
       .skip)))
    (.reg [⟨some 25, none, [.t 5], .v (.mv)⟩,
      ⟨some 26, none, [.t 25, .c (.pv (.int .i64 1))], .v (.bin .add)⟩,
      ⟨some 5, none, [.t 26], .v (.mv)⟩] [0, 3, 4, 5])))
def g32L0 : ACode := .loop [0, 3, 4, 5] g32B0
theorem g32L0_eq {AP : Nat → Option AFunc} {st : St} : cl AP g32L0 st = after (cl AP g32L0) (cl AP g32B0 (norm (restrict [0, 3, 4, 5] st))) := cl_loop
def g32 : AFunc := ⟨1, 45, [.t 2],
  (.seq
   (.reg [⟨some 2, none, [.c (.clp [])], .v (.mv)⟩] [0])
   (.seq
    (.reg [⟨some 6, none, [], .callP 79⟩,
      ⟨some 3, none, [.t 6], .v (.mv)⟩] [0, 3])
    (.seq
     (.reg [⟨some 4, none, [.c (.clp [])], .v (.mv)⟩] [0, 3, 4])
     (.seq
      (.seq
       (.reg [⟨some 7, none, [.t 0], .v (.mv)⟩,
         ⟨some 8, none, [.t 7, .c (.pv (.int .i64 2))], .v (.bin .and)⟩,
         ⟨some 9, none, [.t 8, .c (.pv (.int .i64 0))], .v (.bin .neq)⟩,
         ⟨some 10, none, [.t 9], .v (.mv)⟩,
         ⟨some 11, some (10, false), [.t 0], .v (.mv)⟩,
         ⟨some 12, some (10, false), [.t 11, .c (.pv (.int .i64 64))], .v (.bin .and)⟩,
         ⟨some 13, some (10, false), [.t 12, .c (.pv (.int .i64 0))], .v (.bin .neq)⟩,
         ⟨some 14, none, [.t 10, .c (.pv (.bool true)), .t 13], .v (.pick)⟩] [0, 3, 4, 14])
       (.cond (.t 14)
        (.reg [⟨some 15, none, [.t 4], .v (.mv)⟩,
          ⟨some 16, none, [.t 3], .v (.mv)⟩,
          ⟨some 17, none, [.t 16, .c (.pv (.int .i64 1))], .v (.iaddr 4)⟩,
          ⟨some 18, none, [.t 17], .v (.loadE 4 true)⟩,
          ⟨some 19, none, [.t 18], .v (.bslice 4)⟩,
          ⟨some 20, none, [.t 15, .t 19], .append 4 72⟩,
          ⟨some 4, none, [.t 20], .v (.mv)⟩] [0, 3, 4])
        .skip))
      (.seq
       (.seq
        (.reg [⟨some 5, none, [.c (.pv (.int .i64 0))], .v (.mv)⟩] [0, 3, 4, 5])
        (.block 0
         g32L0))
       (.seq
        (.reg [⟨some 44, none, [.t 4], .v (.mv)⟩,
          ⟨some 2, none, [.t 44], .v (.mv)⟩] [2])
        .ret)))))), none, false⟩

/- typedholes/types.Equal -/
def g33 : AFunc := ⟨2, 9, [.t 4],
  (.seq
   (.reg [⟨some 2, none, [.t 0], .box 2 5⟩,
     ⟨some 3, none, [.t 1], .box 3 5⟩,
     ⟨some 4, none, [.c (.pv (.bool false))], .v (.mv)⟩] [2, 3])
   (.seq
    (.reg [⟨some 5, none, [.t 2], .loadL 2 0 5 true⟩,
      ⟨some 6, none, [.t 3], .loadL 3 0 5 true⟩,
      ⟨some 7, none, [.t 5, .t 6], .callP 35⟩,
      ⟨some 8, none, [.t 7, .c (.pv (.int .i64 0))], .v (.bin .eql)⟩,
      ⟨some 4, none, [.t 8], .v (.mv)⟩] [4])
    .ret)), none, false⟩

/- typedholes/typedholesref3.Int -/
def g34 : AFunc := ⟨0, 2, [.c 0 5 true],
  (.seq
   (.reg [⟨some 0, none, [], .alloc 0 [.int .i64 0, .str [], .int .i64 0, .int .i64 0, .lst []]⟩] [0])
   (.seq
    (.reg [⟨some 1, none, [.c (.pv (.str [73, 110, 116])), .c (.clp [])], .callP 62⟩,
      ⟨none, none, [.t 0, .t 1], .storeL 0 0 5⟩] [0])
    .ret)), none, false⟩

/- typedholes/types.Compare -/
def g35 : AFunc := ⟨2, 43, [.t 4],
  (.seq
   (.reg [⟨some 2, none, [.t 0], .box 2 5⟩,
     ⟨some 3, none, [.t 1], .box 3 5⟩,
     ⟨some 4, none, [.c (.pv (.int .i64 0))], .v (.mv)⟩] [2, 3])
   (.seq
    (.reg [⟨some 6, none, [.t 2], .v (.faddr 0)⟩,
      ⟨some 7, none, [.t 6], .loadL 2 0 1 false⟩,
      ⟨some 8, none, [.t 3], .v (.faddr 0)⟩,
      ⟨some 9, none, [.t 8], .loadL 3 0 1 false⟩,
      ⟨some 10, none, [.t 7, .t 9], .callP 81⟩,
      ⟨some 11, none, [.t 2], .v (.faddr 1)⟩,
      ⟨some 12, none, [.t 11], .loadL 2 1 1 false⟩,
      ⟨some 13, none, [.t 3], .v (.faddr 1)⟩,
      ⟨some 14, none, [.t 13], .loadL 3 1 1 false⟩,
      ⟨some 15, none, [.t 12, .t 14], .callP 82⟩,
      ⟨some 16, none, [.t 2], .v (.faddr 2)⟩,
      ⟨some 17, none, [.t 16], .loadL 2 2 1 false⟩,
      ⟨some 18, none, [.t 3], .v (.faddr 2)⟩,
      ⟨some 19, none, [.t 18], .loadL 3 2 1 false⟩,
      ⟨some 20, none, [.t 17, .t 19], .callP 81⟩,
      ⟨some 21, none, [.t 2], .v (.faddr 3)⟩,
      ⟨some 22, none, [.t 21], .loadL 2 3 1 false⟩,
      ⟨some 23, none, [.t 3], .v (.faddr 3)⟩,
      ⟨some 24, none, [.t 23], .loadL 3 3 1 false⟩,
      ⟨some 25, none, [.t 22, .t 24], .callP 81⟩,
      ⟨some 26, none, [.t 2], .v (.faddr 4)⟩,
      ⟨some 27, none, [.t 26], .loadL 2 4 1 false⟩,
      ⟨some 28, none, [.t 27], .v (.len)⟩,
      ⟨some 29, none, [.t 3], .v (.faddr 4)⟩,
      ⟨some 30, none, [.t 29], .loadL 3 4 1 false⟩,
      ⟨some 31, none, [.t 30], .v (.len)⟩,
      ⟨some 32, none, [.t 28, .t 31], .callP 81⟩,
      ⟨some 33, none, [.t 10, .t 15, .t 20, .t 25, .t 32], .v (.bslice 1)⟩,
      ⟨some 34, none, [.t 33], .callP 80⟩,
      ⟨some 5, none, [.t 34], .v (.mv)⟩] [2, 3, 5])
    (.seq
     (.seq
      (.reg [⟨some 35, none, [.t 5], .v (.mv)⟩,
        ⟨some 36, none, [.t 35, .c (.pv (.int .i64 0))], .v (.bin .neq)⟩] [2, 3, 5, 36])
      (.cond (.t 36)
       (.seq
        (.reg [⟨some 37, none, [.t 5], .v (.mv)⟩,
          ⟨some 4, none, [.t 37], .v (.mv)⟩] [4])
        .ret)
       .skip))
     (.seq
      (.reg [⟨some 38, none, [.t 2], .v (.faddr 4)⟩,
        ⟨some 39, none, [.t 38], .loadL 2 4 1 false⟩,
        ⟨some 40, none, [.t 3], .v (.faddr 4)⟩,
        ⟨some 41, none, [.t 40], .loadL 3 4 1 false⟩,
        ⟨some 42, none, [.t 39, .t 41, .c (.fn 35 [])], .callI 83 []⟩,
        ⟨some 4, none, [.t 42], .v (.mv)⟩] [4])
      .ret)))), none, false⟩

/- typedholes/types.Replace -/
def g45 : AFunc := ⟨2, 8, [.c 4 5 true],
  (.seq
   (.reg [⟨some 2, none, [.t 0], .box 2 5⟩,
     ⟨some 3, none, [.t 1], .boxS 1⟩,
     ⟨some 4, none, [], .alloc 4 [.int .i64 0, .str [], .int .i64 0, .int .i64 0, .lst []]⟩] [2, 3, 4])
   (.seq
    (.reg [⟨some 5, none, [.t 2], .loadL 2 0 5 true⟩,
      ⟨some 6, none, [.t 3], .v (.mkfn 92)⟩,
      ⟨some 7, none, [.t 5, .t 6], .callI 91 []⟩,
      ⟨none, none, [.t 4, .t 7], .storeL 4 0 5⟩] [4])
    .ret)), none, false⟩

/- typedholes/types.Open -/
def g47 : AFunc := ⟨2, 8, [.c 4 5 true],
  (.seq
   (.reg [⟨some 2, none, [.t 0], .box 2 5⟩,
     ⟨some 3, none, [.t 1], .boxS 1⟩,
     ⟨some 4, none, [], .alloc 4 [.int .i64 0, .str [], .int .i64 0, .int .i64 0, .lst []]⟩] [2, 3, 4])
   (.seq
    (.reg [⟨some 5, none, [.t 2], .loadL 2 0 5 true⟩,
      ⟨some 6, none, [.t 3], .v (.mkfn 93)⟩,
      ⟨some 7, none, [.t 5, .t 6], .callI 91 []⟩,
      ⟨none, none, [.t 4, .t 7], .storeL 4 0 5⟩] [4])
    .ret)), none, false⟩

/- typedholes/typedholesref3.Depth -/
def g52B0 : ACode :=
  (.seq
   (.seq
    (.reg [⟨some 5, none, [.t 4], .v (.mv)⟩,
      ⟨some 6, none, [.t 1], .v (.faddr 4)⟩,
      ⟨some 7, none, [.t 6], .loadL 1 4 1 false⟩,
      ⟨some 8, none, [.t 7], .v (.len)⟩,
      ⟨some 9, none, [.t 5, .t 8], .v (.bin .lss)⟩] [1, 3, 4, 9])
    (.cond (.t 9)
     .skip
     (.exit 0)))
   (.seq
    (.block 1
     (.reg [⟨some 12, none, [.t 3], .v (.mv)⟩,
       ⟨some 13, none, [.t 1], .v (.faddr 4)⟩,
       ⟨some 14, none, [.t 13], .loadL 1 4 1 false⟩,
       ⟨some 15, none, [.t 4], .v (.mv)⟩,
       ⟨some 16, none, [.t 14, .t 15], .v (.iaddr 5)⟩,
       ⟨some 17, none, [.t 16], .v (.loadE 5 true)⟩,
       ⟨some 18, none, [.t 17], .callP 52⟩,
       ⟨some 19, none, [.c (.pv (.int .i64 1)), .t 18], .v (.bin .add)⟩,
       ⟨some 20, none, [.t 12, .t 19], .v (.mx)⟩,
       ⟨some 3, none, [.t 20], .v (.mv)⟩] [1, 3, 4]))
    (.reg [⟨some 10, none, [.t 4], .v (.mv)⟩,
      ⟨some 11, none, [.t 10, .c (.pv (.int .i64 1))], .v (.bin .add)⟩,
      ⟨some 4, none, [.t 11], .v (.mv)⟩] [1, 3, 4])))
def g52L0 : ACode := .loop [1, 3, 4] g52B0
theorem g52L0_eq {AP : Nat → Option AFunc} {st : St} : cl AP g52L0 st = after (cl AP g52L0) (cl AP g52B0 (norm (restrict [1, 3, 4] st))) := cl_loop
def g52 : AFunc := ⟨1, 22, [.t 2],
  (.seq
   (.reg [⟨some 1, none, [.t 0], .box 1 5⟩,
     ⟨some 2, none, [.c (.pv (.int .i64 0))], .v (.mv)⟩] [1])
   (.seq
    (.reg [⟨some 3, none, [.c (.pv (.int .i64 0))], .v (.mv)⟩] [1, 3])
    (.seq
     (.seq
      (.reg [⟨some 4, none, [.c (.pv (.int .i64 0))], .v (.mv)⟩] [1, 3, 4])
      (.block 0
       g52L0))
     (.seq
      (.reg [⟨some 21, none, [.t 3], .v (.mv)⟩,
        ⟨some 2, none, [.t 21], .v (.mv)⟩] [2])
      .ret)))), none, false⟩

/- typedholes/types.Vars -/
def g55B0 : ACode :=
  (.seq
   (.reg [⟨some 9, none, [.t 8, .t 7], .v (.bin .lss)⟩] [3, 6, 7, 8, 9])
   (.seq
    (.cond (.t 9)
     .skip
     (.exit 0))
    (.seq
     (.block 1
      (.seq
       (.reg [⟨some 10, none, [.t 6, .t 8], .v (.iaddr 5)⟩,
         ⟨some 11, none, [.t 10], .v (.loadE 5 true)⟩,
         ⟨some 5, none, [], .alloc 5 [.int .i64 0, .str [], .int .i64 0, .int .i64 0, .lst []]⟩,
         ⟨none, none, [.t 5, .t 11], .storeL 5 0 5⟩] [3, 5, 6, 7, 8])
       (.reg [⟨some 12, none, [.t 5], .loadL 5 0 5 true⟩,
         ⟨some 13, none, [.t 3], .v (.mkfn 97)⟩,
         ⟨some 14, none, [.t 12, .t 13], .callI 96 []⟩] [3, 6, 7, 8])))
     (.reg [⟨some 15, none, [.t 8, .c (.pv (.int .i64 1))], .v (.bin .add)⟩,
       ⟨some 8, none, [.t 15], .v (.mv)⟩] [3, 6, 7, 8]))))
def g55L0 : ACode := .loop [3, 6, 7, 8] g55B0
theorem g55L0_eq {AP : Nat → Option AFunc} {st : St} : cl AP g55L0 st = after (cl AP g55L0) (cl AP g55B0 (norm (restrict [3, 6, 7, 8] st))) := cl_loop
def g55 : AFunc := ⟨1, 17, [.t 2],
  (.seq
   (.reg [⟨some 2, none, [.c (.clp [])], .v (.mv)⟩] [0])
   (.seq
    (.reg [⟨some 3, none, [], .allocS [.lst []]⟩] [0, 3])
    (.seq
     (.seq
      (.reg [⟨some 6, none, [.t 0], .v (.mv)⟩,
        ⟨some 7, none, [.t 6], .v (.len)⟩,
        ⟨some 8, none, [.c (.pv (.int .i64 0))], .v (.mv)⟩] [3, 6, 7, 8])
      (.block 0
       g55L0))
     (.seq
      (.reg [⟨some 16, none, [.t 3], .loadS 1 false⟩,
        ⟨some 2, none, [.t 16], .v (.mv)⟩] [2])
      .ret)))), none, false⟩

/- typedholes/typedholesref3.Vars -/
def g56B0 : ACode :=
  (.seq
   (.seq
    (.reg [⟨some 7, none, [.t 4], .v (.mv)⟩,
      ⟨some 8, none, [.t 0], .v (.mv)⟩,
      ⟨some 9, none, [.t 8], .v (.len)⟩,
      ⟨some 10, none, [.t 7, .t 9], .v (.bin .lss)⟩] [0, 3, 4, 10])
    (.cond (.t 10)
     .skip
     (.exit 0)))
   (.seq
    (.block 1
     (.reg [⟨some 13, none, [.t 3], .v (.mv)⟩,
       ⟨some 14, none, [.t 0], .v (.mv)⟩,
       ⟨some 15, none, [.t 4], .v (.mv)⟩,
       ⟨some 16, none, [.t 14, .t 15], .v (.iaddr 5)⟩,
       ⟨some 17, none, [.t 16], .v (.loadE 5 true)⟩,
       ⟨some 18, none, [.t 13, .t 17, .c (.pv (.int .i64 1))], .callI 99 [0]⟩,
       ⟨some 3, none, [.t 18], .v (.mv)⟩] [0, 3, 4]))
    (.reg [⟨some 11, none, [.t 4], .v (.mv)⟩,
      ⟨some 12, none, [.t 11, .c (.pv (.int .i64 1))], .v (.bin .add)⟩,
      ⟨some 4, none, [.t 12], .v (.mv)⟩] [0, 3, 4])))
def g56L0 : ACode := .loop [0, 3, 4] g56B0
theorem g56L0_eq {AP : Nat → Option AFunc} {st : St} : cl AP g56L0 st = after (cl AP g56L0) (cl AP g56B0 (norm (restrict [0, 3, 4] st))) := cl_loop
def g56B1 : ACode :=
  (.seq
   (.seq
    (.reg [⟨some 19, none, [.t 6], .v (.mv)⟩,
      ⟨some 20, none, [.t 3], .v (.mv)⟩,
      ⟨some 21, none, [.t 20], .v (.len)⟩,
      ⟨some 22, none, [.t 19, .t 21], .v (.bin .lss)⟩] [3, 5, 6, 22])
    (.cond (.t 22)
     .skip
     (.exit 2)))
   (.seq
    (.block 3
     (.seq
      (.reg [⟨some 25, none, [.t 5], .v (.mv)⟩,
        ⟨some 26, none, [.t 3], .v (.mv)⟩,
        ⟨some 27, none, [.t 6], .v (.mv)⟩,
        ⟨some 28, none, [.t 26, .t 27], .v (.iaddr 5)⟩,
        ⟨some 29, none, [.t 28], .v (.faddr 2)⟩,
        ⟨some 30, none, [.t 29], .v (.loadE 1 false)⟩,
        ⟨some 31, none, [.t 25, .t 30], .callP 95⟩,
        ⟨some 32, none, [.t 31], .v (.un .not)⟩] [3, 5, 6, 32])
      (.cond (.t 32)
       (.reg [⟨some 33, none, [.t 5], .v (.mv)⟩,
         ⟨some 34, none, [.t 3], .v (.mv)⟩,
         ⟨some 35, none, [.t 6], .v (.mv)⟩,
         ⟨some 36, none, [.t 34, .t 35], .v (.iaddr 5)⟩,
         ⟨some 37, none, [.t 36], .v (.faddr 2)⟩,
         ⟨some 38, none, [.t 37], .v (.loadE 1 false)⟩,
         ⟨some 39, none, [.t 38], .v (.bslice 1)⟩,
         ⟨some 40, none, [.t 33, .t 39], .append 1 8⟩,
         ⟨some 5, none, [.t 40], .v (.mv)⟩] [3, 5, 6])
       .skip)))
    (.reg [⟨some 23, none, [.t 6], .v (.mv)⟩,
      ⟨some 24, none, [.t 23, .c (.pv (.int .i64 1))], .v (.bin .add)⟩,
      ⟨some 6, none, [.t 24], .v (.mv)⟩] [3, 5, 6])))
def g56L1 : ACode := .loop [3, 5, 6] g56B1
theorem g56L1_eq {AP : Nat → Option AFunc} {st : St} : cl AP g56L1 st = after (cl AP g56L1) (cl AP g56B1 (norm (restrict [3, 5, 6] st))) := cl_loop
def g56 : AFunc := ⟨1, 42, [.t 2],
  (.seq
   (.reg [⟨some 2, none, [.c (.clp [])], .v (.mv)⟩] [0])
   (.seq
    (.reg [⟨some 3, none, [.c (.clp [])], .v (.mv)⟩] [0, 3])
    (.seq
     (.seq
      (.reg [⟨some 4, none, [.c (.pv (.int .i64 0))], .v (.mv)⟩] [0, 3, 4])
      (.block 0
       g56L0))
     (.seq
      (.reg [⟨some 5, none, [.c (.clp [])], .v (.mv)⟩] [3, 5])
      (.seq
       (.seq
        (.reg [⟨some 6, none, [.c (.pv (.int .i64 0))], .v (.mv)⟩] [3, 5, 6])
        (.block 2
         g56L1))
       (.seq
        (.reg [⟨some 41, none, [.t 5], .v (.mv)⟩,
          ⟨some 2, none, [.t 41], .v (.mv)⟩] [2])
        .ret)))))), none, false⟩

/- typedholes/typedholesref3.EqualAll -/
def g57B0 : ACode :=
  (.seq
   (.seq
    (.reg [⟨some 11, none, [.t 5], .v (.mv)⟩,
      ⟨some 12, none, [.t 0], .v (.mv)⟩,
      ⟨some 13, none, [.t 12], .v (.len)⟩,
      ⟨some 14, none, [.t 11, .t 13], .v (.bin .lss)⟩] [0, 1, 5, 14])
    (.cond (.t 14)
     .skip
     (.exit 0)))
   (.seq
    (.block 1
     (.seq
      (.reg [⟨some 17, none, [.t 0], .v (.mv)⟩,
        ⟨some 18, none, [.t 5], .v (.mv)⟩,
        ⟨some 19, none, [.t 17, .t 18], .v (.iaddr 5)⟩,
        ⟨some 20, none, [.t 19], .v (.loadE 5 true)⟩,
        ⟨some 21, none, [.t 1], .v (.mv)⟩,
        ⟨some 22, none, [.t 5], .v (.mv)⟩,
        ⟨some 23, none, [.t 21, .t 22], .v (.iaddr 5)⟩,
        ⟨some 24, none, [.t 23], .v (.loadE 5 true)⟩,
        ⟨some 25, none, [.t 20, .t 24], .callP 20⟩,
        ⟨some 26, none, [.t 25], .v (.un .not)⟩] [0, 1, 5, 26])
      (.cond (.t 26)
       (.seq
        (.reg [⟨some 4, none, [.c (.pv (.bool false))], .v (.mv)⟩] [4])
        .ret)
       .skip)))
    (.reg [⟨some 15, none, [.t 5], .v (.mv)⟩,
      ⟨some 16, none, [.t 15, .c (.pv (.int .i64 1))], .v (.bin .add)⟩,
      ⟨some 5, none, [.t 16], .v (.mv)⟩] [0, 1, 5])))
def g57L0 : ACode := .loop [0, 1, 5] g57B0
theorem g57L0_eq {AP : Nat → Option AFunc} {st : St} : cl AP g57L0 st = after (cl AP g57L0) (cl AP g57B0 (norm (restrict [0, 1, 5] st))) := cl_loop
def g57 : AFunc := ⟨2, 27, [.t 4],
  (.seq
   (.reg [⟨some 4, none, [.c (.pv (.bool false))], .v (.mv)⟩] [0, 1])
   (.seq
    (.seq
     (.reg [⟨some 6, none, [.t 0], .v (.mv)⟩,
       ⟨some 7, none, [.t 6], .v (.len)⟩,
       ⟨some 8, none, [.t 1], .v (.mv)⟩,
       ⟨some 9, none, [.t 8], .v (.len)⟩,
       ⟨some 10, none, [.t 7, .t 9], .v (.bin .neq)⟩] [0, 1, 10])
     (.cond (.t 10)
      (.seq
       (.reg [⟨some 4, none, [.c (.pv (.bool false))], .v (.mv)⟩] [4])
       .ret)
      .skip))
    (.seq
     (.seq
      (.reg [⟨some 5, none, [.c (.pv (.int .i64 0))], .v (.mv)⟩] [0, 1, 5])
      (.block 0
       g57L0))
     (.seq
      (.reg [⟨some 4, none, [.c (.pv (.bool true))], .v (.mv)⟩] [4])
      .ret)))), none, false⟩

/- typedholes/typedholesref3.Con -/
def g62 : AFunc := ⟨2, 9, [.c 4 5 true],
  (.seq
   (.reg [⟨some 4, none, [], .alloc 4 [.int .i64 0, .str [], .int .i64 0, .int .i64 0, .lst []]⟩] [0, 1, 4])
   (.seq
    (.reg [⟨some 5, none, [.t 0], .v (.mv)⟩,
      ⟨some 6, none, [.t 1], .v (.mv)⟩,
      ⟨some 7, none, [.c (.clp []), .t 6], .append 5 64⟩,
      ⟨some 8, none, [.c (.pv (.int .i64 4)), .t 5, .t 7], .v (.build [.int .i64 0, .str [], .int .i64 0, .int .i64 0, .lst []] [(0, 1), (1, 1), (4, 1)])⟩,
      ⟨none, none, [.t 4, .t 8], .storeL 4 0 5⟩] [4])
    .ret)), none, false⟩

/- typedholes/typedholesref3.Var -/
def g63 : AFunc := ⟨1, 5, [.c 2 5 true],
  (.seq
   (.reg [⟨some 2, none, [], .alloc 2 [.int .i64 0, .str [], .int .i64 0, .int .i64 0, .lst []]⟩] [0, 2])
   (.seq
    (.reg [⟨some 3, none, [.t 0], .v (.mv)⟩,
      ⟨some 4, none, [.c (.pv (.int .i64 1)), .t 3], .v (.build [.int .i64 0, .str [], .int .i64 0, .int .i64 0, .lst []] [(0, 1), (2, 1)])⟩,
      ⟨none, none, [.t 2, .t 4], .storeL 2 0 5⟩] [2])
    .ret)), none, false⟩

/- (*typedholes/typedholesmake.Tape).Next -/
def g68 : AFunc := ⟨2, 35, [.t 4],
  (.seq
   (.reg [⟨some 4, none, [.c (.pv (.int .i64 0))], .v (.mv)⟩] [0, 1])
   (.seq
    (.seq
     (.reg [⟨some 5, none, [.t 0], .v (.mv)⟩,
       ⟨some 6, none, [.t 5], .v (.nilchk)⟩,
       ⟨some 7, none, [.t 6], .v (.faddr 1)⟩,
       ⟨some 8, none, [.t 7], .loadS 1 false⟩,
       ⟨some 9, none, [.t 0], .v (.mv)⟩,
       ⟨some 10, none, [.t 9], .v (.nilchk)⟩,
       ⟨some 11, none, [.t 10], .v (.faddr 0)⟩,
       ⟨some 12, none, [.t 11], .loadS 1 false⟩,
       ⟨some 13, none, [.t 12], .v (.len)⟩,
       ⟨some 14, none, [.t 8, .t 13], .v (.bin .geq)⟩] [0, 1, 14])
     (.cond (.t 14)
      (.seq
       (.reg [⟨some 4, none, [.c (.pv (.int .i64 0))], .v (.mv)⟩] [4])
       .ret)
      .skip))
    (.seq
     (.reg [⟨some 15, none, [.t 0], .v (.mv)⟩,
       ⟨some 16, none, [.t 15], .v (.nilchk)⟩,
       ⟨some 17, none, [.t 16], .v (.faddr 1)⟩,
       ⟨some 18, none, [.t 17], .loadS 1 false⟩,
       ⟨some 19, none, [.t 18, .c (.pv (.int .i64 1))], .v (.bin .add)⟩,
       ⟨some 20, none, [.t 15], .v (.nilchk)⟩,
       ⟨some 21, none, [.t 20], .v (.faddr 1)⟩,
       ⟨none, none, [.t 21, .t 19], .storeS 1⟩] [0, 1])
     (.seq
      (.reg [⟨some 22, none, [.t 0], .v (.mv)⟩,
        ⟨some 23, none, [.t 22], .v (.nilchk)⟩,
        ⟨some 24, none, [.t 23], .v (.faddr 0)⟩,
        ⟨some 25, none, [.t 24], .loadS 1 false⟩,
        ⟨some 26, none, [.t 0], .v (.mv)⟩,
        ⟨some 27, none, [.t 26], .v (.nilchk)⟩,
        ⟨some 28, none, [.t 27], .v (.faddr 1)⟩,
        ⟨some 29, none, [.t 28], .loadS 1 false⟩,
        ⟨some 30, none, [.t 29, .c (.pv (.int .i64 1))], .v (.bin .sub)⟩,
        ⟨some 31, none, [.t 25, .t 30], .v (.iaddr 1)⟩,
        ⟨some 32, none, [.t 31], .v (.loadE 1 false)⟩,
        ⟨some 33, none, [.t 1], .v (.mv)⟩,
        ⟨some 34, none, [.t 32, .t 33], .callP 26⟩,
        ⟨some 4, none, [.t 34], .v (.mv)⟩] [4])
      .ret)))), none, false⟩

/- typedholes/typedholesref3.Arrow -/
def g69 : AFunc := ⟨2, 9, [.c 4 5 true],
  (.seq
   (.reg [⟨some 2, none, [.t 0], .box 2 5⟩,
     ⟨some 3, none, [.t 1], .box 3 5⟩,
     ⟨some 4, none, [], .alloc 4 [.int .i64 0, .str [], .int .i64 0, .int .i64 0, .lst []]⟩] [2, 3, 4])
   (.seq
    (.reg [⟨some 5, none, [.t 2], .loadL 2 0 5 true⟩,
      ⟨some 6, none, [.t 3], .loadL 3 0 5 true⟩,
      ⟨some 7, none, [.t 5, .t 6], .v (.bslice 5)⟩,
      ⟨some 8, none, [.c (.pv (.str [45, 62])), .t 7], .callP 62⟩,
      ⟨none, none, [.t 4, .t 8], .storeL 4 0 5⟩] [4])
    .ret)), none, false⟩

/- typedholes/typedholesmake.Vars -/
def g70B0 : ACode :=
  (.seq
   (.seq
    (.reg [⟨some 5, none, [.t 4], .v (.mv)⟩,
      ⟨some 6, none, [.t 0], .v (.mv)⟩,
      ⟨some 7, none, [.t 5, .t 6], .v (.bin .lss)⟩] [0, 3, 4, 7])
    (.cond (.t 7)
     .skip
     (.exit 0)))
   (.seq
    (.block 1
     (.reg [⟨some 10, none, [.t 3], .v (.mv)⟩,
       ⟨some 11, none, [.t 4], .v (.mv)⟩,
       ⟨some 12, none, [.t 11], .callP 63⟩,
       ⟨some 13, none, [.t 12], .v (.bslice 5)⟩,
       ⟨some 14, none, [.t 10, .t 13], .append 5 64⟩,
       ⟨some 3, none, [.t 14], .v (.mv)⟩] [0, 3, 4]))
    (.reg [⟨some 8, none, [.t 4], .v (.mv)⟩,
      ⟨some 9, none, [.t 8, .c (.pv (.int .i64 1))], .v (.bin .add)⟩,
      ⟨some 4, none, [.t 9], .v (.mv)⟩] [0, 3, 4])))
def g70L0 : ACode := .loop [0, 3, 4] g70B0
theorem g70L0_eq {AP : Nat → Option AFunc} {st : St} : cl AP g70L0 st = after (cl AP g70L0) (cl AP g70B0 (norm (restrict [0, 3, 4] st))) := cl_loop
def g70 : AFunc := ⟨1, 16, [.t 2],
  (.seq
   (.reg [⟨some 2, none, [.c (.clp [])], .v (.mv)⟩] [0])
   (.seq
    (.reg [⟨some 3, none, [.c (.clp [])], .v (.mv)⟩] [0, 3])
    (.seq
     (.seq
      (.reg [⟨some 4, none, [.c (.pv (.int .i64 0))], .v (.mv)⟩] [0, 3, 4])
      (.block 0
       g70L0))
     (.seq
      (.reg [⟨some 15, none, [.t 3], .v (.mv)⟩,
        ⟨some 2, none, [.t 15], .v (.mv)⟩] [2])
      .ret)))), none, false⟩

/- typedholes/typedholesref3.Rigid -/
def g71 : AFunc := ⟨2, 8, [.c 4 5 true],
  (.seq
   (.reg [⟨some 4, none, [], .alloc 4 [.int .i64 0, .str [], .int .i64 0, .int .i64 0, .lst []]⟩] [0, 1, 4])
   (.seq
    (.reg [⟨some 5, none, [.t 0], .v (.mv)⟩,
      ⟨some 6, none, [.t 1], .v (.mv)⟩,
      ⟨some 7, none, [.c (.pv (.int .i64 3)), .t 5, .t 6], .v (.build [.int .i64 0, .str [], .int .i64 0, .int .i64 0, .lst []] [(0, 1), (3, 1), (2, 1)])⟩,
      ⟨none, none, [.t 4, .t 7], .storeL 4 0 5⟩] [4])
    .ret)), none, false⟩

/- typedholes/types.name -/
def g73B0 : ACode :=
  (.seq
   (.reg [⟨some 33, none, [.t 32, .t 31], .v (.bin .lss)⟩] [0, 31, 32, 33])
   (.seq
    (.cond (.t 33)
     .skip
     (.exit 0))
    (.seq
     (.block 1
      (.seq
       (.reg [⟨some 34, none, [.t 32], .v (.mv)⟩,
         ⟨some 7, none, [.t 34], .v (.mv)⟩] [0, 7, 31, 32])
       (.seq
        (.reg [⟨some 35, none, [.t 0], .v (.mv)⟩,
          ⟨some 36, none, [.t 7], .v (.mv)⟩,
          ⟨some 37, none, [.t 35, .t 36], .v (.index)⟩,
          ⟨some 8, none, [.t 37], .v (.mv)⟩] [0, 8, 31, 32])
        (.seq
         (.reg [⟨some 38, none, [.t 8], .v (.mv)⟩,
           ⟨some 39, none, [.t 38, .c (.pv (.int .u8 97))], .v (.bin .geq)⟩,
           ⟨some 40, none, [.t 39], .v (.mv)⟩,
           ⟨some 41, some (40, true), [.t 8], .v (.mv)⟩,
           ⟨some 42, some (40, true), [.t 41, .c (.pv (.int .u8 122))], .v (.bin .leq)⟩,
           ⟨some 43, none, [.t 40, .t 42, .c (.pv (.bool false))], .v (.pick)⟩,
           ⟨some 44, none, [.t 43], .v (.mv)⟩,
           ⟨some 45, some (44, false), [.t 8], .v (.mv)⟩,
           ⟨some 46, some (44, false), [.t 45, .c (.pv (.int .u8 65))], .v (.bin .geq)⟩,
           ⟨some 47, some (44, false), [.t 46], .v (.mv)⟩,
           ⟨some 48, some (47, true), [.t 8], .v (.mv)⟩,
           ⟨some 49, some (47, true), [.t 48, .c (.pv (.int .u8 90))], .v (.bin .leq)⟩,
           ⟨some 50, some (44, false), [.t 47, .t 49, .c (.pv (.bool false))], .v (.pick)⟩,
           ⟨some 51, none, [.t 44, .c (.pv (.bool true)), .t 50], .v (.pick)⟩,
           ⟨some 9, none, [.t 51], .v (.mv)⟩] [0, 8, 9, 31, 32])
         (.seq
          (.reg [⟨some 52, none, [.t 9], .v (.mv)⟩,
            ⟨some 53, none, [.t 52], .v (.un .not)⟩,
            ⟨some 54, none, [.t 53], .v (.mv)⟩,
            ⟨some 55, some (54, true), [.t 8], .v (.mv)⟩,
            ⟨some 56, some (54, true), [.t 55, .c (.pv (.int .u8 48))], .v (.bin .lss)⟩,
            ⟨some 57, some (54, true), [.t 56], .v (.mv)⟩,
            ⟨some 58, some (57, false), [.t 8], .v (.mv)⟩,
            ⟨some 59, some (57, false), [.t 58, .c (.pv (.int .u8 57))], .v (.bin .gtr)⟩,
            ⟨some 60, some (54, true), [.t 57, .c (.pv (.bool true)), .t 59], .v (.pick)⟩,
            ⟨some 61, none, [.t 54, .t 60, .c (.pv (.bool false))], .v (.pick)⟩,
            ⟨some 62, none, [.t 61], .v (.mv)⟩,
            ⟨some 63, some (62, true), [.t 8], .v (.mv)⟩,
            ⟨some 64, some (62, true), [.t 63, .c (.pv (.int .u8 95))], .v (.bin .neq)⟩,
            ⟨some 65, none, [.t 62, .t 64, .c (.pv (.bool false))], .v (.pick)⟩] [0, 31, 32, 65])
          (.cond (.t 65)
           (.seq
            (.reg [⟨some 6, none, [.c (.pv (.bool false))], .v (.mv)⟩] [6])
            .ret)
           .skip))))))
     (.reg [⟨some 66, none, [.t 32, .c (.pv (.int .i64 1))], .v (.bin .add)⟩,
       ⟨some 32, none, [.t 66], .v (.mv)⟩] [0, 31, 32]))))
def g73L0 : ACode := .loop [0, 31, 32] g73B0
theorem g73L0_eq {AP : Nat → Option AFunc} {st : St} : cl AP g73L0 st = after (cl AP g73L0) (cl AP g73B0 (norm (restrict [0, 31, 32] st))) := cl_loop
def g73 : AFunc := ⟨3, 76, [.t 6],
  (.seq
   (.reg [⟨some 6, none, [.c (.pv (.bool false))], .v (.mv)⟩] [0, 1, 2])
   (.seq
    (.seq
     (.reg [⟨some 10, none, [.t 0], .v (.mv)⟩,
       ⟨some 11, none, [.t 10], .v (.lenS)⟩,
       ⟨some 12, none, [.t 11, .c (.pv (.int .i64 1))], .v (.bin .lss)⟩,
       ⟨some 13, none, [.t 12], .v (.mv)⟩,
       ⟨some 14, some (13, false), [.t 0], .v (.mv)⟩,
       ⟨some 15, some (13, false), [.t 14], .v (.lenS)⟩,
       ⟨some 16, some (13, false), [.t 15, .c (.pv (.int .i64 12))], .v (.bin .gtr)⟩,
       ⟨some 17, none, [.t 13, .c (.pv (.bool true)), .t 16], .v (.pick)⟩,
       ⟨some 18, none, [.t 17], .v (.mv)⟩,
       ⟨some 19, some (18, false), [.t 0], .v (.mv)⟩,
       ⟨some 20, some (18, false), [.t 19, .c (.pv (.int .i64 0))], .v (.index)⟩,
       ⟨some 21, some (18, false), [.t 1], .v (.mv)⟩,
       ⟨some 22, some (18, false), [.t 20, .t 21], .v (.bin .lss)⟩,
       ⟨some 23, none, [.t 18, .c (.pv (.bool true)), .t 22], .v (.pick)⟩,
       ⟨some 24, none, [.t 23], .v (.mv)⟩,
       ⟨some 25, some (24, false), [.t 0], .v (.mv)⟩,
       ⟨some 26, some (24, false), [.t 25, .c (.pv (.int .i64 0))], .v (.index)⟩,
       ⟨some 27, some (24, false), [.t 2], .v (.mv)⟩,
       ⟨some 28, some (24, false), [.t 26, .t 27], .v (.bin .gtr)⟩,
       ⟨some 29, none, [.t 24, .c (.pv (.bool true)), .t 28], .v (.pick)⟩] [0, 29])
     (.cond (.t 29)
      (.seq
       (.reg [⟨some 6, none, [.c (.pv (.bool false))], .v (.mv)⟩] [6])
       .ret)
      .skip))
    (.seq
     (.seq
      (.reg [⟨some 30, none, [.t 0], .v (.mv)⟩,
        ⟨some 31, none, [.t 30], .v (.lenS)⟩,
        ⟨some 32, none, [.c (.pv (.int .i64 0))], .v (.mv)⟩] [0, 31, 32])
      (.block 0
       g73L0))
     (.seq
      (.seq
       (.reg [⟨some 67, none, [.t 0], .v (.mv)⟩] [67])
       (.block 2
        (.seq
         (.seq
          (.reg [⟨some 69, none, [.t 67, .c (.pv (.str [100, 97, 116, 97]))], .v (.bin .eql)⟩,
            ⟨some 68, none, [.t 69], .v (.mv)⟩] [67, 68])
          (.cond (.t 68)
           .skip
           (.seq
            (.reg [⟨some 70, none, [.t 67, .c (.pv (.str [108, 101, 116]))], .v (.bin .eql)⟩,
              ⟨some 68, none, [.t 70], .v (.mv)⟩] [67, 68])
            (.cond (.t 68)
             .skip
             (.seq
              (.reg [⟨some 71, none, [.t 67, .c (.pv (.str [114, 101, 99]))], .v (.bin .eql)⟩,
                ⟨some 68, none, [.t 71], .v (.mv)⟩] [67, 68])
              (.cond (.t 68)
               .skip
               (.seq
                (.reg [⟨some 72, none, [.t 67, .c (.pv (.str [105, 110]))], .v (.bin .eql)⟩,
                  ⟨some 68, none, [.t 72], .v (.mv)⟩] [67, 68])
                (.cond (.t 68)
                 .skip
                 (.seq
                  (.reg [⟨some 73, none, [.t 67, .c (.pv (.str [99, 97, 115, 101]))], .v (.bin .eql)⟩,
                    ⟨some 68, none, [.t 73], .v (.mv)⟩] [67, 68])
                  (.cond (.t 68)
                   .skip
                   (.seq
                    (.reg [⟨some 74, none, [.t 67, .c (.pv (.str [111, 102]))], .v (.bin .eql)⟩,
                      ⟨some 68, none, [.t 74], .v (.mv)⟩] [67, 68])
                    (.cond (.t 68)
                     .skip
                     (.reg [⟨some 75, none, [.t 67, .c (.pv (.str [101, 110, 100]))], .v (.bin .eql)⟩,
                       ⟨some 68, none, [.t 75], .v (.mv)⟩] [68])))))))))))))
         (.cond (.t 68)
          (.seq
           (.reg [⟨some 6, none, [.c (.pv (.bool false))], .v (.mv)⟩] [6])
           .ret)
          .skip))))
      (.seq
       (.reg [⟨some 6, none, [.c (.pv (.bool true))], .v (.mv)⟩] [6])
       .ret))))), none, false⟩

/- typedholes/types.constructor -/
def g74 : AFunc := ⟨2, 20, [.t 4],
  (.seq
   (.reg [⟨some 4, none, [.c (.pv (.bool false))], .v (.mv)⟩] [0, 1])
   (.seq
    (.seq
     (.reg [⟨some 5, none, [.t 0], .v (.mv)⟩] [0, 1, 5])
     (.block 0
      (.seq
       (.reg [⟨some 7, none, [.t 5, .c (.pv (.str [45, 62]))], .v (.bin .eql)⟩,
         ⟨some 6, none, [.t 7], .v (.mv)⟩] [0, 1, 5, 6])
       (.cond (.t 6)
        (.seq
         (.reg [⟨some 8, none, [.t 1], .v (.mv)⟩,
           ⟨some 9, none, [.t 8, .c (.pv (.int .i64 2))], .v (.bin .eql)⟩,
           ⟨some 4, none, [.t 9], .v (.mv)⟩] [4])
         .ret)
        (.seq
         (.reg [⟨some 11, none, [.t 5, .c (.pv (.str [73, 110, 116]))], .v (.bin .eql)⟩,
           ⟨some 10, none, [.t 11], .v (.mv)⟩] [0, 1, 10])
         (.cond (.t 10)
          (.seq
           (.reg [⟨some 12, none, [.t 1], .v (.mv)⟩,
             ⟨some 13, none, [.t 12, .c (.pv (.int .i64 0))], .v (.bin .eql)⟩,
             ⟨some 4, none, [.t 13], .v (.mv)⟩] [4])
           .ret)
          .skip))))))
    (.seq
     (.reg [⟨some 14, none, [.t 0], .v (.mv)⟩,
       ⟨some 15, none, [.t 14, .c (.pv (.int .u8 65)), .c (.pv (.int .u8 90))], .callP 73⟩,
       ⟨some 16, none, [.t 15], .v (.mv)⟩,
       ⟨some 17, some (16, true), [.t 1], .v (.mv)⟩,
       ⟨some 18, some (16, true), [.t 17, .c (.pv (.int .i64 4))], .v (.bin .leq)⟩,
       ⟨some 19, none, [.t 16, .t 18, .c (.pv (.bool false))], .v (.pick)⟩,
       ⟨some 4, none, [.t 19], .v (.mv)⟩] [4])
     .ret))), none, false⟩

/- slices.ContainsFunc[[]typedholes/api.Type,typedholes/api.Type] -/
def g75 : AFunc := ⟨2, 9, [.t 4],
  (.seq
   (.reg [⟨some 4, none, [.c (.pv (.bool false))], .v (.mv)⟩] [0, 1])
   (.seq
    (.reg [⟨some 5, none, [.t 0], .v (.mv)⟩,
      ⟨some 6, none, [.t 1], .v (.mv)⟩,
      ⟨some 7, none, [.t 5, .t 6], .callI 107 []⟩,
      ⟨some 8, none, [.t 7, .c (.pv (.int .i64 0))], .v (.bin .geq)⟩,
      ⟨some 4, none, [.t 8], .v (.mv)⟩] [4])
    .ret)), none, false⟩

/- typedholes/types.invalid -/
def g76 : AFunc := ⟨1, 6, [.t 2],
  (.seq
   (.reg [⟨some 1, none, [.t 0], .box 1 5⟩,
     ⟨some 2, none, [.c (.pv (.bool false))], .v (.mv)⟩] [1])
   (.seq
    (.reg [⟨some 3, none, [.t 1], .loadL 1 0 5 true⟩,
      ⟨some 4, none, [.t 3], .callP 29⟩,
      ⟨some 5, none, [.t 4], .v (.un .not)⟩,
      ⟨some 2, none, [.t 5], .v (.mv)⟩] [2])
    .ret)), none, false⟩

/- typedholes/typedholesref2.Lower -/
def g77 : AFunc := ⟨1, 20, [.t 2],
  (.seq
   (.reg [⟨some 2, none, [.c (.pv (.bool false))], .v (.mv)⟩] [0])
   (.seq
    (.reg [⟨some 3, none, [.t 0], .v (.mv)⟩,
      ⟨some 4, none, [.t 3], .callP 108⟩,
      ⟨some 5, none, [.t 4], .v (.mv)⟩,
      ⟨some 6, some (5, true), [.t 0], .v (.mv)⟩,
      ⟨some 7, some (5, true), [.t 6, .c (.pv (.int .i64 0))], .v (.index)⟩,
      ⟨some 8, some (5, true), [.t 7], .callP 109⟩,
      ⟨some 9, none, [.t 5, .t 8, .c (.pv (.bool false))], .v (.pick)⟩,
      ⟨some 10, none, [.t 9], .v (.mv)⟩,
      ⟨some 11, some (10, true), [.t 0], .v (.mv)⟩,
      ⟨some 12, some (10, true), [.t 11], .v (.lenS)⟩,
      ⟨some 13, some (10, true), [.t 12, .c (.pv (.int .i64 12))], .v (.bin .leq)⟩,
      ⟨some 14, none, [.t 10, .t 13, .c (.pv (.bool false))], .v (.pick)⟩,
      ⟨some 15, none, [.t 14], .v (.mv)⟩,
      ⟨some 16, some (15, true), [.t 0], .v (.mv)⟩,
      ⟨some 17, some (15, true), [.t 16], .callP 110⟩,
      ⟨some 18, some (15, true), [.t 17], .v (.un .not)⟩,
      ⟨some 19, none, [.t 15, .t 18, .c (.pv (.bool false))], .v (.pick)⟩,
      ⟨some 2, none, [.t 19], .v (.mv)⟩] [2])
    .ret)), none, false⟩

/- typedholes/typedholesref2.Upper -/
def g78 : AFunc := ⟨1, 15, [.t 2],
  (.seq
   (.reg [⟨some 2, none, [.c (.pv (.bool false))], .v (.mv)⟩] [0])
   (.seq
    (.reg [⟨some 3, none, [.t 0], .v (.mv)⟩,
      ⟨some 4, none, [.t 3], .callP 108⟩,
      ⟨some 5, none, [.t 4], .v (.mv)⟩,
      ⟨some 6, some (5, true), [.t 0], .v (.mv)⟩,
      ⟨some 7, some (5, true), [.t 6, .c (.pv (.int .i64 0))], .v (.index)⟩,
      ⟨some 8, some (5, true), [.t 7], .callP 111⟩,
      ⟨some 9, none, [.t 5, .t 8, .c (.pv (.bool false))], .v (.pick)⟩,
      ⟨some 10, none, [.t 9], .v (.mv)⟩,
      ⟨some 11, some (10, true), [.t 0], .v (.mv)⟩,
      ⟨some 12, some (10, true), [.t 11], .v (.lenS)⟩,
      ⟨some 13, some (10, true), [.t 12, .c (.pv (.int .i64 12))], .v (.bin .leq)⟩,
      ⟨some 14, none, [.t 10, .t 13, .c (.pv (.bool false))], .v (.pick)⟩,
      ⟨some 2, none, [.t 14], .v (.mv)⟩] [2])
    .ret)), none, false⟩

/- typedholes/typedholesmake.all -/
def g79 : AFunc := ⟨0, 9, [.t 0],
  (.seq
   (.reg [⟨some 0, none, [.c (.clp [])], .v (.mv)⟩] [])
   (.seq
    (.reg [⟨some 4, none, [.c (.pv (.str [100, 97, 116, 97, 32, 66, 111, 111, 108, 32, 61, 32, 84, 114, 117, 101, 32, 124, 32, 70, 97, 108, 115, 101, 59, 32, 100, 97, 116, 97, 32, 79, 112, 116, 105, 111, 110, 32, 97, 32, 61, 32, 78, 111, 110, 101, 32, 124, 32, 83, 111, 109, 101, 32, 97, 59, 32, 100, 97, 116, 97, 32, 76, 105, 115, 116, 32, 97, 32, 61, 32, 78, 105, 108, 32, 124, 32, 67, 111, 110, 115, 32, 97, 32, 40, 76, 105, 115, 116, 32, 97, 41, 59, 100, 97, 116, 97, 32, 80, 97, 105, 114, 32, 97, 32, 98, 32, 61, 32, 80, 97, 105, 114, 32, 97, 32, 98, 59, 32, 100, 97, 116, 97, 32, 78, 97, 116, 32, 61, 32, 90, 101, 114, 111, 32, 124, 32, 83, 117, 99, 99, 32, 78, 97, 116, 59, 32, 100, 97, 116, 97, 32, 70, 117, 110, 32, 97, 32, 98, 32, 61, 32, 70, 117, 110, 32, 40, 97, 32, 45, 62, 32, 98, 41, 59, 32, 100, 97, 116, 97, 32, 84, 119, 111, 32, 97, 32, 61, 32, 66, 111, 116, 104, 32, 97, 32, 97, 32, 124, 32, 79, 110, 101, 32, 40, 79, 112, 116, 105, 111, 110, 32, 97, 41, 59]))], .callP 112⟩,
      ⟨some 3, none, [.t 4], .v (.mv)⟩,
      ⟨some 5, none, [.t 3], .v (.ext 0)⟩,
      ⟨some 6, none, [.t 3], .v (.ext 1)⟩,
      ⟨some 1, none, [], .alloc 1 [.lst [], .lst []]⟩,
      ⟨some 2, none, [], .alloc 2 [.int .i64 0, .int .i64 0]⟩,
      ⟨none, none, [.t 1, .t 5], .storeL 1 0 2⟩,
      ⟨none, none, [.t 2, .t 6], .storeL 2 0 2⟩] [1])
    (.seq
     (.reg [⟨some 7, none, [.t 1], .v (.faddr 0)⟩,
       ⟨some 8, none, [.t 7], .loadL 1 0 1 false⟩,
       ⟨some 0, none, [.t 8], .v (.mv)⟩] [0])
     .ret))), none, false⟩

/- cmp.Or[int] -/
def g80B0 : ACode :=
  (.seq
   (.reg [⟨some 9, none, [.t 8, .t 7], .v (.bin .lss)⟩] [3, 6, 7, 8, 9])
   (.seq
    (.cond (.t 9)
     .skip
     (.exit 0))
    (.seq
     (.block 1
      (.seq
       (.reg [⟨some 10, none, [.t 6, .t 8], .v (.iaddr 1)⟩,
         ⟨some 11, none, [.t 10], .v (.loadE 1 false)⟩,
         ⟨some 5, none, [.t 11], .v (.mv)⟩] [3, 5, 6, 7, 8])
       (.seq
        (.reg [⟨some 12, none, [.t 5], .v (.mv)⟩,
          ⟨some 13, none, [.t 3], .v (.mv)⟩,
          ⟨some 14, none, [.t 12, .t 13], .v (.bin .neq)⟩] [3, 5, 6, 7, 8, 14])
        (.cond (.t 14)
         (.seq
          (.reg [⟨some 15, none, [.t 5], .v (.mv)⟩,
            ⟨some 2, none, [.t 15], .v (.mv)⟩] [2])
          .ret)
         .skip))))
     (.reg [⟨some 16, none, [.t 8, .c (.pv (.int .i64 1))], .v (.bin .add)⟩,
       ⟨some 8, none, [.t 16], .v (.mv)⟩] [3, 6, 7, 8]))))
def g80L0 : ACode := .loop [3, 6, 7, 8] g80B0
theorem g80L0_eq {AP : Nat → Option AFunc} {st : St} : cl AP g80L0 st = after (cl AP g80L0) (cl AP g80B0 (norm (restrict [3, 6, 7, 8] st))) := cl_loop
def g80 : AFunc := ⟨1, 18, [.t 2],
  (.seq
   (.reg [⟨some 2, none, [.c (.pv (.int .i64 0))], .v (.mv)⟩] [0])
   (.seq
    (.reg [⟨some 3, none, [.c (.pv (.int .i64 0))], .v (.mv)⟩] [0, 3])
    (.seq
     (.seq
      (.reg [⟨some 6, none, [.t 0], .v (.mv)⟩,
        ⟨some 7, none, [.t 6], .v (.len)⟩,
        ⟨some 8, none, [.c (.pv (.int .i64 0))], .v (.mv)⟩] [3, 6, 7, 8])
      (.block 0
       g80L0))
     (.seq
      (.reg [⟨some 17, none, [.t 3], .v (.mv)⟩,
        ⟨some 2, none, [.t 17], .v (.mv)⟩] [2])
      .ret)))), none, false⟩

/- cmp.Compare[int] -/
def g81 : AFunc := ⟨2, 20, [.t 4],
  (.seq
   (.reg [⟨some 4, none, [.c (.pv (.int .i64 0))], .v (.mv)⟩] [0, 1])
   (.seq
    (.reg [⟨some 7, none, [.t 0], .v (.mv)⟩,
      ⟨some 8, none, [.t 7], .callP 113⟩,
      ⟨some 5, none, [.t 8], .v (.mv)⟩] [0, 1, 5])
    (.seq
     (.reg [⟨some 9, none, [.t 1], .v (.mv)⟩,
       ⟨some 10, none, [.t 9], .callP 113⟩,
       ⟨some 6, none, [.t 10], .v (.mv)⟩] [0, 1, 5, 6])
     (.seq
      (.seq
       (.reg [⟨some 11, none, [.t 5], .v (.mv)⟩] [0, 1, 6, 11])
       (.cond (.t 11)
        (.seq
         (.seq
          (.reg [⟨some 12, none, [.t 6], .v (.mv)⟩] [12])
          (.cond (.t 12)
           (.seq
            (.reg [⟨some 4, none, [.c (.pv (.int .i64 0))], .v (.mv)⟩] [4])
            .ret)
           .skip))
         (.seq
          (.reg [⟨some 4, none, [.c (.pv (.int .i64 (-1)))], .v (.mv)⟩] [4])
          .ret))
        .skip))
      (.seq
       (.seq
        (.reg [⟨some 13, none, [.t 6], .v (.mv)⟩] [0, 1, 13])
        (.cond (.t 13)
         (.seq
          (.reg [⟨some 4, none, [.c (.pv (.int .i64 1))], .v (.mv)⟩] [4])
          .ret)
         .skip))
       (.seq
        (.seq
         (.reg [⟨some 14, none, [.t 0], .v (.mv)⟩,
           ⟨some 15, none, [.t 1], .v (.mv)⟩,
           ⟨some 16, none, [.t 14, .t 15], .v (.bin .lss)⟩] [0, 1, 16])
         (.cond (.t 16)
          (.seq
           (.reg [⟨some 4, none, [.c (.pv (.int .i64 (-1)))], .v (.mv)⟩] [4])
           .ret)
          .skip))
        (.seq
         (.seq
          (.reg [⟨some 17, none, [.t 0], .v (.mv)⟩,
            ⟨some 18, none, [.t 1], .v (.mv)⟩,
            ⟨some 19, none, [.t 17, .t 18], .v (.bin .gtr)⟩] [19])
          (.cond (.t 19)
           (.seq
            (.reg [⟨some 4, none, [.c (.pv (.int .i64 1))], .v (.mv)⟩] [4])
            .ret)
           .skip))
         (.seq
          (.reg [⟨some 4, none, [.c (.pv (.int .i64 0))], .v (.mv)⟩] [4])
          .ret)))))))), none, false⟩

/- cmp.Compare[string] -/
def g82 : AFunc := ⟨2, 20, [.t 4],
  (.seq
   (.reg [⟨some 4, none, [.c (.pv (.int .i64 0))], .v (.mv)⟩] [0, 1])
   (.seq
    (.reg [⟨some 7, none, [.t 0], .v (.mv)⟩,
      ⟨some 8, none, [.t 7], .callP 114⟩,
      ⟨some 5, none, [.t 8], .v (.mv)⟩] [0, 1, 5])
    (.seq
     (.reg [⟨some 9, none, [.t 1], .v (.mv)⟩,
       ⟨some 10, none, [.t 9], .callP 114⟩,
       ⟨some 6, none, [.t 10], .v (.mv)⟩] [0, 1, 5, 6])
     (.seq
      (.seq
       (.reg [⟨some 11, none, [.t 5], .v (.mv)⟩] [0, 1, 6, 11])
       (.cond (.t 11)
        (.seq
         (.seq
          (.reg [⟨some 12, none, [.t 6], .v (.mv)⟩] [12])
          (.cond (.t 12)
           (.seq
            (.reg [⟨some 4, none, [.c (.pv (.int .i64 0))], .v (.mv)⟩] [4])
            .ret)
           .skip))
         (.seq
          (.reg [⟨some 4, none, [.c (.pv (.int .i64 (-1)))], .v (.mv)⟩] [4])
          .ret))
        .skip))
      (.seq
       (.seq
        (.reg [⟨some 13, none, [.t 6], .v (.mv)⟩] [0, 1, 13])
        (.cond (.t 13)
         (.seq
          (.reg [⟨some 4, none, [.c (.pv (.int .i64 1))], .v (.mv)⟩] [4])
          .ret)
         .skip))
       (.seq
        (.seq
         (.reg [⟨some 14, none, [.t 0], .v (.mv)⟩,
           ⟨some 15, none, [.t 1], .v (.mv)⟩,
           ⟨some 16, none, [.t 14, .t 15], .v (.bin .lss)⟩] [0, 1, 16])
         (.cond (.t 16)
          (.seq
           (.reg [⟨some 4, none, [.c (.pv (.int .i64 (-1)))], .v (.mv)⟩] [4])
           .ret)
          .skip))
        (.seq
         (.seq
          (.reg [⟨some 17, none, [.t 0], .v (.mv)⟩,
            ⟨some 18, none, [.t 1], .v (.mv)⟩,
            ⟨some 19, none, [.t 17, .t 18], .v (.bin .gtr)⟩] [19])
          (.cond (.t 19)
           (.seq
            (.reg [⟨some 4, none, [.c (.pv (.int .i64 1))], .v (.mv)⟩] [4])
            .ret)
           .skip))
         (.seq
          (.reg [⟨some 4, none, [.c (.pv (.int .i64 0))], .v (.mv)⟩] [4])
          .ret)))))))), none, false⟩

/- slices.CompareFunc[[]typedholes/api.Type,[]typedholes/api.Type,typedholes/api.Type,typedholes/api.Type] -/
def g83B0 : ACode :=
  (.seq
   (.reg [⟨some 14, none, [.t 13, .t 12], .v (.bin .lss)⟩] [0, 1, 2, 11, 12, 13, 14])
   (.seq
    (.cond (.t 14)
     .skip
     (.exit 0))
    (.seq
     (.block 1
      (.seq
       (.reg [⟨some 15, none, [.t 13], .v (.mv)⟩,
         ⟨some 16, none, [.t 11, .t 13], .v (.iaddr 5)⟩,
         ⟨some 17, none, [.t 16], .loadS 5 true⟩,
         ⟨some 8, none, [], .alloc 8 [.int .i64 0, .str [], .int .i64 0, .int .i64 0, .lst []]⟩,
         ⟨some 7, none, [.t 15], .v (.mv)⟩,
         ⟨none, none, [.t 8, .t 17], .storeL 8 0 5⟩] [0, 1, 2, 7, 8, 11, 12, 13])
       (.seq
        (.seq
         (.reg [⟨some 18, none, [.t 7], .v (.mv)⟩,
           ⟨some 19, none, [.t 1], .v (.mv)⟩,
           ⟨some 20, none, [.t 19], .v (.len)⟩,
           ⟨some 21, none, [.t 18, .t 20], .v (.bin .geq)⟩] [0, 1, 2, 7, 8, 11, 12, 13, 21])
         (.cond (.t 21)
          (.seq
           (.reg [⟨some 6, none, [.c (.pv (.int .i64 1))], .v (.mv)⟩] [6])
           .ret)
          .skip))
        (.seq
         (.reg [⟨some 22, none, [.t 1], .v (.mv)⟩,
           ⟨some 23, none, [.t 7], .v (.mv)⟩,
           ⟨some 24, none, [.t 22, .t 23], .v (.iaddr 5)⟩,
           ⟨some 25, none, [.t 24], .loadS 5 true⟩,
           ⟨some 9, none, [], .alloc 9 [.int .i64 0, .str [], .int .i64 0, .int .i64 0, .lst []]⟩,
           ⟨none, none, [.t 9, .t 25], .storeL 9 0 5⟩] [0, 1, 2, 8, 9, 11, 12, 13])
         (.seq
          (.reg [⟨some 26, none, [.t 2], .v (.mv)⟩,
            ⟨some 27, none, [.t 8], .loadL 8 0 5 true⟩,
            ⟨some 28, none, [.t 9], .loadL 9 0 5 true⟩,
            ⟨some 29, none, [.t 26, .t 27, .t 28], .callV⟩,
            ⟨some 10, none, [.t 29], .v (.mv)⟩] [0, 1, 2, 10, 11, 12, 13])
          (.seq
           (.reg [⟨some 30, none, [.t 10], .v (.mv)⟩,
             ⟨some 31, none, [.t 30, .c (.pv (.int .i64 0))], .v (.bin .neq)⟩] [0, 1, 2, 10, 11, 12, 13, 31])
           (.cond (.t 31)
            (.seq
             (.reg [⟨some 32, none, [.t 10], .v (.mv)⟩,
               ⟨some 6, none, [.t 32], .v (.mv)⟩] [6])
             .ret)
            .skip)))))))
     (.reg [⟨some 33, none, [.t 13, .c (.pv (.int .i64 1))], .v (.bin .add)⟩,
       ⟨some 13, none, [.t 33], .v (.mv)⟩] [0, 1, 2, 11, 12, 13]))))
def g83L0 : ACode := .loop [0, 1, 2, 11, 12, 13] g83B0
theorem g83L0_eq {AP : Nat → Option AFunc} {st : St} : cl AP g83L0 st = after (cl AP g83L0) (cl AP g83B0 (norm (restrict [0, 1, 2, 11, 12, 13] st))) := cl_loop
def g83 : AFunc := ⟨3, 39, [.t 6],
  (.seq
   (.reg [⟨some 6, none, [.c (.pv (.int .i64 0))], .v (.mv)⟩] [0, 1, 2])
   (.seq
    (.seq
     (.reg [⟨some 11, none, [.t 0], .v (.mv)⟩,
       ⟨some 12, none, [.t 11], .v (.len)⟩,
       ⟨some 13, none, [.c (.pv (.int .i64 0))], .v (.mv)⟩] [0, 1, 2, 11, 12, 13])
     (.block 0
      g83L0))
    (.seq
     (.seq
      (.reg [⟨some 34, none, [.t 0], .v (.mv)⟩,
        ⟨some 35, none, [.t 34], .v (.len)⟩,
        ⟨some 36, none, [.t 1], .v (.mv)⟩,
        ⟨some 37, none, [.t 36], .v (.len)⟩,
        ⟨some 38, none, [.t 35, .t 37], .v (.bin .lss)⟩] [38])
      (.cond (.t 38)
       (.seq
        (.reg [⟨some 6, none, [.c (.pv (.int .i64 (-1)))], .v (.mv)⟩] [6])
        .ret)
       .skip))
     (.seq
      (.reg [⟨some 6, none, [.c (.pv (.int .i64 0))], .v (.mv)⟩] [6])
      .ret)))), none, false⟩

/- typedholes/types.rebuild -/
def g91B0 : ACode :=
  (.seq
   (.reg [⟨some 23, none, [.t 22, .t 21], .v (.bin .lss)⟩] [1, 2, 4, 5, 20, 21, 22, 23])
   (.seq
    (.cond (.t 23)
     .skip
     (.exit 0))
    (.seq
     (.block 1
      (.seq
       (.reg [⟨some 24, none, [.t 22], .v (.mv)⟩,
         ⟨some 25, none, [.t 20, .t 22], .v (.iaddr 5)⟩,
         ⟨some 26, none, [.t 25], .loadS 5 true⟩,
         ⟨some 7, none, [], .alloc 7 [.int .i64 0, .str [], .int .i64 0, .int .i64 0, .lst []]⟩,
         ⟨some 6, none, [.t 24], .v (.mv)⟩,
         ⟨none, none, [.t 7, .t 26], .storeL 7 0 5⟩] [1, 2, 4, 5, 6, 7, 20, 21, 22])
       (.reg [⟨some 27, none, [.t 5], .v (.mv)⟩,
         ⟨some 28, none, [.t 6], .v (.mv)⟩,
         ⟨some 29, none, [.t 7], .loadL 7 0 5 true⟩,
         ⟨some 30, none, [.t 1], .v (.mv)⟩,
         ⟨some 31, none, [.t 29, .t 30], .callI 91 []⟩,
         ⟨some 32, none, [.t 27, .t 28], .v (.iaddr 5)⟩,
         ⟨none, none, [.t 32, .t 31], .storeS 5⟩] [1, 2, 4, 5, 20, 21, 22])))
     (.reg [⟨some 33, none, [.t 22, .c (.pv (.int .i64 1))], .v (.bin .add)⟩,
       ⟨some 22, none, [.t 33], .v (.mv)⟩] [1, 2, 4, 5, 20, 21, 22]))))
def g91L0 : ACode := .loop [1, 2, 4, 5, 20, 21, 22] g91B0
theorem g91L0_eq {AP : Nat → Option AFunc} {st : St} : cl AP g91L0 st = after (cl AP g91L0) (cl AP g91B0 (norm (restrict [1, 2, 4, 5, 20, 21, 22] st))) := cl_loop
def g91 : AFunc := ⟨2, 37, [.c 4 5 true],
  (.seq
   (.reg [⟨some 2, none, [.t 0], .box 2 5⟩,
     ⟨some 4, none, [], .alloc 4 [.int .i64 0, .str [], .int .i64 0, .int .i64 0, .lst []]⟩] [1, 2, 4])
   (.seq
    (.seq
     (.reg [⟨some 8, none, [.t 2], .v (.faddr 4)⟩,
       ⟨some 9, none, [.t 8], .loadL 2 4 1 false⟩,
       ⟨some 10, none, [.t 9], .v (.len)⟩,
       ⟨some 11, none, [.t 10, .c (.pv (.int .i64 0))], .v (.bin .eql)⟩] [1, 2, 4, 11])
     (.cond (.t 11)
      (.seq
       (.reg [⟨some 12, none, [.t 1], .v (.mv)⟩,
         ⟨some 13, none, [.t 2], .loadL 2 0 5 true⟩,
         ⟨some 14, none, [.t 12, .t 13], .callV⟩,
         ⟨none, none, [.t 4, .t 14], .storeL 4 0 5⟩] [4])
       .ret)
      .skip))
    (.seq
     (.reg [⟨some 15, none, [.t 2], .v (.faddr 4)⟩,
       ⟨some 16, none, [.t 15], .loadL 2 4 1 false⟩,
       ⟨some 17, none, [.t 16], .v (.len)⟩,
       ⟨some 18, none, [.t 17, .t 17], .makeS 5 64 true [.int .i64 0, .str [], .int .i64 0, .int .i64 0, .lst []]⟩,
       ⟨some 5, none, [.t 18], .v (.mv)⟩] [1, 2, 4, 5])
     (.seq
      (.seq
       (.reg [⟨some 19, none, [.t 2], .v (.faddr 4)⟩,
         ⟨some 20, none, [.t 19], .loadL 2 4 1 false⟩,
         ⟨some 21, none, [.t 20], .v (.len)⟩,
         ⟨some 22, none, [.c (.pv (.int .i64 0))], .v (.mv)⟩] [1, 2, 4, 5, 20, 21, 22])
       (.block 0
        g91L0))
      (.seq
       (.reg [⟨some 34, none, [.t 5], .v (.mv)⟩,
         ⟨some 35, none, [.t 2], .v (.faddr 4)⟩,
         ⟨none, none, [.t 35, .t 34], .storeL 2 4 1⟩] [2, 4])
       (.seq
        (.reg [⟨some 36, none, [.t 2], .loadL 2 0 5 true⟩,
          ⟨none, none, [.t 4, .t 36], .storeL 4 0 5⟩] [4])
        .ret)))))), none, false⟩

/- typedholes/types.Replace$1 -/
def g92B0 : ACode :=
  (.seq
   (.reg [⟨some 12, none, [.t 11, .t 10], .v (.bin .lss)⟩] [2, 3, 9, 10, 11, 12])
   (.seq
    (.cond (.t 12)
     .skip
     (.exit 0))
    (.seq
     (.block 1
      (.seq
       (.reg [⟨some 13, none, [.t 9, .t 11], .v (.iaddr 6)⟩,
         ⟨some 14, none, [.t 13], .v (.loadE 6 true)⟩,
         ⟨some 5, none, [], .alloc 5 [.int .i64 0, .int .i64 0, .str [], .int .i64 0, .int .i64 0, .lst []]⟩,
         ⟨none, none, [.t 5, .t 14], .storeL 5 0 6⟩] [2, 3, 5, 9, 10, 11])
       (.seq
        (.reg [⟨some 15, none, [.t 5], .v (.faddr 0)⟩,
          ⟨some 16, none, [.t 15], .loadL 5 0 1 false⟩,
          ⟨some 17, none, [.t 2], .v (.faddr 2)⟩,
          ⟨some 18, none, [.t 17], .loadL 2 2 1 false⟩,
          ⟨some 19, none, [.t 16, .t 18], .v (.bin .eql)⟩] [2, 3, 5, 9, 10, 11, 19])
        (.cond (.t 19)
         (.seq
          (.reg [⟨some 20, none, [.t 5], .v (.faddr 1)⟩,
            ⟨some 21, none, [.t 20], .loadL 5 1 5 true⟩,
            ⟨none, none, [.t 3, .t 21], .storeL 3 0 5⟩] [3])
          .ret)
         .skip))))
     (.reg [⟨some 22, none, [.t 11, .c (.pv (.int .i64 1))], .v (.bin .add)⟩,
       ⟨some 11, none, [.t 22], .v (.mv)⟩] [2, 3, 9, 10, 11]))))
def g92L0 : ACode := .loop [2, 3, 9, 10, 11] g92B0
theorem g92L0_eq {AP : Nat → Option AFunc} {st : St} : cl AP g92L0 st = after (cl AP g92L0) (cl AP g92B0 (norm (restrict [2, 3, 9, 10, 11] st))) := cl_loop
def g92 : AFunc := ⟨1, 24, [.c 3 5 true],
  (.seq
   (.reg [⟨some 2, none, [.t 0], .box 2 5⟩,
     ⟨some 3, none, [], .alloc 3 [.int .i64 0, .str [], .int .i64 0, .int .i64 0, .lst []]⟩] [1, 2, 3])
   (.seq
    (.seq
     (.reg [⟨some 6, none, [.t 2], .v (.faddr 0)⟩,
       ⟨some 7, none, [.t 6], .loadL 2 0 1 false⟩,
       ⟨some 8, none, [.t 7, .c (.pv (.int .i64 1))], .v (.bin .eql)⟩] [1, 2, 3, 8])
     (.cond (.t 8)
      (.seq
       (.reg [⟨some 9, none, [.t 1], .loadS 1 false⟩,
         ⟨some 10, none, [.t 9], .v (.len)⟩,
         ⟨some 11, none, [.c (.pv (.int .i64 0))], .v (.mv)⟩] [2, 3, 9, 10, 11])
       (.block 0
        g92L0))
      .skip))
    (.seq
     (.reg [⟨some 23, none, [.t 2], .loadL 2 0 5 true⟩,
       ⟨none, none, [.t 3, .t 23], .storeL 3 0 5⟩] [3])
     .ret))), none, false⟩

/- typedholes/types.Open$1 -/
def g93 : AFunc := ⟨1, 25, [.c 3 5 true],
  (.seq
   (.reg [⟨some 2, none, [.t 0], .box 2 5⟩,
     ⟨some 3, none, [], .alloc 3 [.int .i64 0, .str [], .int .i64 0, .int .i64 0, .lst []]⟩] [1, 2, 3])
   (.seq
    (.seq
     (.reg [⟨some 4, none, [.t 2], .v (.faddr 0)⟩,
       ⟨some 5, none, [.t 4], .loadL 2 0 1 false⟩,
       ⟨some 6, none, [.t 5, .c (.pv (.int .i64 2))], .v (.bin .eql)⟩,
       ⟨some 7, none, [.t 6], .v (.mv)⟩,
       ⟨some 8, some (7, true), [.t 2], .v (.faddr 2)⟩,
       ⟨some 9, some (7, true), [.t 8], .loadL 2 2 1 false⟩,
       ⟨some 10, some (7, true), [.t 9, .c (.pv (.int .i64 0))], .v (.bin .geq)⟩,
       ⟨some 11, none, [.t 7, .t 10, .c (.pv (.bool false))], .v (.pick)⟩,
       ⟨some 12, none, [.t 11], .v (.mv)⟩,
       ⟨some 13, some (12, true), [.t 2], .v (.faddr 2)⟩,
       ⟨some 14, some (12, true), [.t 13], .loadL 2 2 1 false⟩,
       ⟨some 15, some (12, true), [.t 1], .loadS 1 false⟩,
       ⟨some 16, some (12, true), [.t 15], .v (.len)⟩,
       ⟨some 17, some (12, true), [.t 14, .t 16], .v (.bin .lss)⟩,
       ⟨some 18, none, [.t 12, .t 17, .c (.pv (.bool false))], .v (.pick)⟩] [1, 2, 3, 18])
     (.cond (.t 18)
      (.seq
       (.reg [⟨some 19, none, [.t 1], .loadS 1 false⟩,
         ⟨some 20, none, [.t 2], .v (.faddr 2)⟩,
         ⟨some 21, none, [.t 20], .loadL 2 2 1 false⟩,
         ⟨some 22, none, [.t 19, .t 21], .v (.iaddr 5)⟩,
         ⟨some 23, none, [.t 22], .v (.loadE 5 true)⟩,
         ⟨none, none, [.t 3, .t 23], .storeL 3 0 5⟩] [3])
       .ret)
      .skip))
    (.seq
     (.reg [⟨some 24, none, [.t 2], .loadL 2 0 5 true⟩,
       ⟨none, none, [.t 3, .t 24], .storeL 3 0 5⟩] [3])
     .ret))), none, false⟩

/- typedholes/typedholesref3.Has -/
def g95B0 : ACode :=
  (.seq
   (.seq
    (.reg [⟨some 6, none, [.t 5], .v (.mv)⟩,
      ⟨some 7, none, [.t 0], .v (.mv)⟩,
      ⟨some 8, none, [.t 7], .v (.len)⟩,
      ⟨some 9, none, [.t 6, .t 8], .v (.bin .lss)⟩] [0, 1, 5, 9])
    (.cond (.t 9)
     .skip
     (.exit 0)))
   (.seq
    (.block 1
     (.seq
      (.reg [⟨some 12, none, [.t 0], .v (.mv)⟩,
        ⟨some 13, none, [.t 5], .v (.mv)⟩,
        ⟨some 14, none, [.t 12, .t 13], .v (.iaddr 1)⟩,
        ⟨some 15, none, [.t 14], .v (.loadE 1 false)⟩,
        ⟨some 16, none, [.t 1], .v (.mv)⟩,
        ⟨some 17, none, [.t 15, .t 16], .v (.bin .eql)⟩] [0, 1, 5, 17])
      (.cond (.t 17)
       (.seq
        (.reg [⟨some 4, none, [.c (.pv (.bool true))], .v (.mv)⟩] [4])
        .ret)
       .skip)))
    (.reg [⟨some 10, none, [.t 5], .v (.mv)⟩,
      ⟨some 11, none, [.t 10, .c (.pv (.int .i64 1))], .v (.bin .add)⟩,
      ⟨some 5, none, [.t 11], .v (.mv)⟩] [0, 1, 5])))
def g95L0 : ACode := .loop [0, 1, 5] g95B0
theorem g95L0_eq {AP : Nat → Option AFunc} {st : St} : cl AP g95L0 st = after (cl AP g95L0) (cl AP g95B0 (norm (restrict [0, 1, 5] st))) := cl_loop
def g95 : AFunc := ⟨2, 18, [.t 4],
  (.seq
   (.reg [⟨some 4, none, [.c (.pv (.bool false))], .v (.mv)⟩] [0, 1])
   (.seq
    (.seq
     (.reg [⟨some 5, none, [.c (.pv (.int .i64 0))], .v (.mv)⟩] [0, 1, 5])
     (.block 0
      g95L0))
    (.seq
     (.reg [⟨some 4, none, [.c (.pv (.bool false))], .v (.mv)⟩] [4])
     .ret))), none, false⟩

/- typedholes/types.visit -/
def g96B0 : ACode :=
  (.seq
   (.reg [⟨some 13, none, [.t 12, .t 11], .v (.bin .lss)⟩] [1, 10, 11, 12, 13])
   (.seq
    (.cond (.t 13)
     .skip
     (.exit 0))
    (.seq
     (.block 1
      (.seq
       (.reg [⟨some 14, none, [.t 10, .t 12], .v (.iaddr 5)⟩,
         ⟨some 15, none, [.t 14], .v (.loadE 5 true)⟩,
         ⟨some 5, none, [], .alloc 5 [.int .i64 0, .str [], .int .i64 0, .int .i64 0, .lst []]⟩,
         ⟨none, none, [.t 5, .t 15], .storeL 5 0 5⟩] [1, 5, 10, 11, 12])
       (.reg [⟨some 16, none, [.t 5], .loadL 5 0 5 true⟩,
         ⟨some 17, none, [.t 1], .v (.mv)⟩,
         ⟨some 18, none, [.t 16, .t 17], .callI 96 []⟩] [1, 10, 11, 12])))
     (.reg [⟨some 19, none, [.t 12, .c (.pv (.int .i64 1))], .v (.bin .add)⟩,
       ⟨some 12, none, [.t 19], .v (.mv)⟩] [1, 10, 11, 12]))))
def g96L0 : ACode := .loop [1, 10, 11, 12] g96B0
theorem g96L0_eq {AP : Nat → Option AFunc} {st : St} : cl AP g96L0 st = after (cl AP g96L0) (cl AP g96B0 (norm (restrict [1, 10, 11, 12] st))) := cl_loop
def g96 : AFunc := ⟨2, 20, [],
  (.seq
   (.reg [⟨some 2, none, [.t 0], .box 2 5⟩] [1, 2])
   (.seq
    (.reg [⟨some 6, none, [.t 1], .v (.mv)⟩,
      ⟨some 7, none, [.t 2], .loadL 2 0 5 true⟩,
      ⟨some 8, none, [.t 6, .t 7], .callV⟩] [1, 2])
    (.seq
     (.reg [⟨some 9, none, [.t 2], .v (.faddr 4)⟩,
       ⟨some 10, none, [.t 9], .loadL 2 4 1 false⟩,
       ⟨some 11, none, [.t 10], .v (.len)⟩,
       ⟨some 12, none, [.c (.pv (.int .i64 0))], .v (.mv)⟩] [1, 10, 11, 12])
     (.block 0
      g96L0)))), none, false⟩

/- typedholes/types.Vars$1 -/
def g97 : AFunc := ⟨1, 18, [],
  (.seq
   (.reg [⟨some 2, none, [.t 0], .box 2 5⟩] [1, 2])
   (.seq
    (.reg [⟨some 3, none, [.t 2], .v (.faddr 0)⟩,
      ⟨some 4, none, [.t 3], .loadL 2 0 1 false⟩,
      ⟨some 5, none, [.t 4, .c (.pv (.int .i64 1))], .v (.bin .eql)⟩,
      ⟨some 6, none, [.t 5], .v (.mv)⟩,
      ⟨some 7, some (6, true), [.t 1], .loadS 1 false⟩,
      ⟨some 8, some (6, true), [.t 2], .v (.faddr 2)⟩,
      ⟨some 9, some (6, true), [.t 8], .loadL 2 2 1 false⟩,
      ⟨some 10, some (6, true), [.t 7, .t 9], .callP 98⟩,
      ⟨some 11, some (6, true), [.t 10], .v (.un .not)⟩,
      ⟨some 12, none, [.t 6, .t 11, .c (.pv (.bool false))], .v (.pick)⟩] [1, 2, 12])
    (.cond (.t 12)
     (.reg [⟨some 13, none, [.t 1], .loadS 1 false⟩,
       ⟨some 14, none, [.t 2], .v (.faddr 2)⟩,
       ⟨some 15, none, [.t 14], .loadL 2 2 1 false⟩,
       ⟨some 16, none, [.t 15], .v (.bslice 1)⟩,
       ⟨some 17, none, [.t 13, .t 16], .append 1 8⟩,
       ⟨none, none, [.t 1, .t 17], .storeS 1⟩] [])
     .skip))), none, false⟩

/- slices.Contains[[]int,int] -/
def g98 : AFunc := ⟨2, 9, [.t 4],
  (.seq
   (.reg [⟨some 4, none, [.c (.pv (.bool false))], .v (.mv)⟩] [0, 1])
   (.seq
    (.reg [⟨some 5, none, [.t 0], .v (.mv)⟩,
      ⟨some 6, none, [.t 1], .v (.mv)⟩,
      ⟨some 7, none, [.t 5, .t 6], .callP 116⟩,
      ⟨some 8, none, [.t 7, .c (.pv (.int .i64 0))], .v (.bin .geq)⟩,
      ⟨some 4, none, [.t 8], .v (.mv)⟩] [4])
    .ret)), none, false⟩

/- typedholes/typedholesref3.leaves -/
def g99B0 : ACode :=
  (.seq
   (.seq
    (.reg [⟨some 19, none, [.t 7], .v (.mv)⟩,
      ⟨some 20, none, [.t 0], .v (.mv)⟩,
      ⟨some 21, none, [.t 20], .v (.len)⟩,
      ⟨some 22, none, [.t 19, .t 21], .v (.bin .lss)⟩] [0, 4, 7, 22])
    (.cond (.t 22)
     .skip
     (.exit 0)))
   (.seq
    (.block 1
     (.seq
      (.reg [⟨some 25, none, [.t 0], .v (.mv)⟩,
        ⟨some 26, none, [.t 7], .v (.mv)⟩,
        ⟨some 27, none, [.t 25, .t 26], .v (.iaddr 5)⟩,
        ⟨some 28, none, [.t 27], .v (.loadE 5 true)⟩,
        ⟨some 29, none, [.t 4], .loadL 4 0 5 true⟩,
        ⟨some 30, none, [.t 28, .t 29], .callP 20⟩] [0, 4, 7, 30])
      (.cond (.t 30)
       (.seq
        (.reg [⟨some 31, none, [.t 0], .v (.mv)⟩,
          ⟨some 6, none, [.t 31], .v (.mv)⟩] [6])
        .ret)
       .skip)))
    (.reg [⟨some 23, none, [.t 7], .v (.mv)⟩,
      ⟨some 24, none, [.t 23, .c (.pv (.int .i64 1))], .v (.bin .add)⟩,
      ⟨some 7, none, [.t 24], .v (.mv)⟩] [0, 4, 7])))
def g99L0 : ACode := .loop [0, 4, 7] g99B0
theorem g99L0_eq {AP : Nat → Option AFunc} {st : St} : cl AP g99L0 st = after (cl AP g99L0) (cl AP g99B0 (norm (restrict [0, 4, 7] st))) := cl_loop
def g99B1 : ACode :=
  (.seq
   (.seq
    (.reg [⟨some 36, none, [.t 8], .v (.mv)⟩,
      ⟨some 37, none, [.t 4], .v (.faddr 4)⟩,
      ⟨some 38, none, [.t 37], .loadL 4 4 1 false⟩,
      ⟨some 39, none, [.t 38], .v (.len)⟩,
      ⟨some 40, none, [.t 36, .t 39], .v (.bin .lss)⟩] [0, 2, 4, 8, 40])
    (.cond (.t 40)
     .skip
     (.exit 2)))
   (.seq
    (.block 3
     (.reg [⟨some 43, none, [.t 0], .v (.mv)⟩,
       ⟨some 44, none, [.t 4], .v (.faddr 4)⟩,
       ⟨some 45, none, [.t 44], .loadL 4 4 1 false⟩,
       ⟨some 46, none, [.t 8], .v (.mv)⟩,
       ⟨some 47, none, [.t 45, .t 46], .v (.iaddr 5)⟩,
       ⟨some 48, none, [.t 47], .v (.loadE 5 true)⟩,
       ⟨some 49, none, [.t 2], .v (.mv)⟩,
       ⟨some 50, none, [.t 43, .t 48, .t 49], .callI 99 [0]⟩,
       ⟨some 0, none, [.t 50], .v (.mv)⟩] [0, 2, 4, 8]))
    (.reg [⟨some 41, none, [.t 8], .v (.mv)⟩,
      ⟨some 42, none, [.t 41, .c (.pv (.int .i64 1))], .v (.bin .add)⟩,
      ⟨some 8, none, [.t 42], .v (.mv)⟩] [0, 2, 4, 8])))
def g99L1 : ACode := .loop [0, 2, 4, 8] g99B1
theorem g99L1_eq {AP : Nat → Option AFunc} {st : St} : cl AP g99L1 st = after (cl AP g99L1) (cl AP g99B1 (norm (restrict [0, 2, 4, 8] st))) := cl_loop
def g99 : AFunc := ⟨3, 52, [.t 6],
  (.seq
   (.reg [⟨some 4, none, [.t 1], .box 4 5⟩,
     ⟨some 6, none, [.c (.clp [])], .v (.mv)⟩] [0, 2, 4])
   (.seq
    (.seq
     (.reg [⟨some 9, none, [.t 4], .v (.faddr 0)⟩,
       ⟨some 10, none, [.t 9], .loadL 4 0 1 false⟩,
       ⟨some 11, none, [.t 2], .v (.mv)⟩,
       ⟨some 12, none, [.t 10, .t 11], .v (.bin .eql)⟩,
       ⟨some 13, none, [.t 12], .v (.mv)⟩,
       ⟨some 14, some (13, true), [.t 4], .v (.faddr 4)⟩,
       ⟨some 15, some (13, true), [.t 14], .loadL 4 4 1 false⟩,
       ⟨some 16, some (13, true), [.t 15], .v (.len)⟩,
       ⟨some 17, some (13, true), [.t 16, .c (.pv (.int .i64 0))], .v (.bin .eql)⟩,
       ⟨some 18, none, [.t 13, .t 17, .c (.pv (.bool false))], .v (.pick)⟩] [0, 2, 4, 18])
     (.cond (.t 18)
      (.seq
       (.seq
        (.reg [⟨some 7, none, [.c (.pv (.int .i64 0))], .v (.mv)⟩] [0, 4, 7])
        (.block 0
         g99L0))
       (.seq
        (.reg [⟨some 32, none, [.t 0], .v (.mv)⟩,
          ⟨some 33, none, [.t 4], .loadL 4 0 5 true⟩,
          ⟨some 34, none, [.t 33], .v (.bslice 5)⟩,
          ⟨some 35, none, [.t 32, .t 34], .append 5 64⟩,
          ⟨some 6, none, [.t 35], .v (.mv)⟩] [6])
        .ret))
      .skip))
    (.seq
     (.seq
      (.reg [⟨some 8, none, [.c (.pv (.int .i64 0))], .v (.mv)⟩] [0, 2, 4, 8])
      (.block 2
       g99L1))
     (.seq
      (.reg [⟨some 51, none, [.t 0], .v (.mv)⟩,
        ⟨some 6, none, [.t 51], .v (.mv)⟩] [6])
      .ret)))), none, false⟩

/- typedholes/typedholesref3.Named -/
def g106 : AFunc := ⟨1, 5, [.c 2 5 true],
  (.seq
   (.reg [⟨some 2, none, [], .alloc 2 [.int .i64 0, .str [], .int .i64 0, .int .i64 0, .lst []]⟩] [0, 2])
   (.seq
    (.reg [⟨some 3, none, [.t 0], .v (.mv)⟩,
      ⟨some 4, none, [.c (.pv (.int .i64 5)), .t 3], .v (.build [.int .i64 0, .str [], .int .i64 0, .int .i64 0, .lst []] [(0, 1), (1, 1)])⟩,
      ⟨none, none, [.t 2, .t 4], .storeL 2 0 5⟩] [2])
    .ret)), none, false⟩

/- slices.IndexFunc[[]typedholes/api.Type,typedholes/api.Type] -/
def g107B0 : ACode :=
  (.seq
   (.reg [⟨some 9, none, [.t 8, .t 7], .v (.bin .lss)⟩] [0, 1, 7, 8, 9])
   (.seq
    (.cond (.t 9)
     .skip
     (.exit 0))
    (.seq
     (.block 1
      (.seq
       (.reg [⟨some 10, none, [.t 8], .v (.mv)⟩,
         ⟨some 5, none, [.t 10], .v (.mv)⟩] [0, 1, 5, 7, 8])
       (.seq
        (.reg [⟨some 11, none, [.t 1], .v (.mv)⟩,
          ⟨some 12, none, [.t 0], .v (.mv)⟩,
          ⟨some 13, none, [.t 5], .v (.mv)⟩,
          ⟨some 14, none, [.t 12, .t 13], .v (.iaddr 5)⟩,
          ⟨some 15, none, [.t 14], .loadS 5 true⟩,
          ⟨some 16, none, [.t 11, .t 15], .callV⟩] [0, 1, 5, 7, 8, 16])
        (.cond (.t 16)
         (.seq
          (.reg [⟨some 17, none, [.t 5], .v (.mv)⟩,
            ⟨some 4, none, [.t 17], .v (.mv)⟩] [4])
          .ret)
         .skip))))
     (.reg [⟨some 18, none, [.t 8, .c (.pv (.int .i64 1))], .v (.bin .add)⟩,
       ⟨some 8, none, [.t 18], .v (.mv)⟩] [0, 1, 7, 8]))))
def g107L0 : ACode := .loop [0, 1, 7, 8] g107B0
theorem g107L0_eq {AP : Nat → Option AFunc} {st : St} : cl AP g107L0 st = after (cl AP g107L0) (cl AP g107B0 (norm (restrict [0, 1, 7, 8] st))) := cl_loop
def g107 : AFunc := ⟨2, 19, [.t 4],
  (.seq
   (.reg [⟨some 4, none, [.c (.pv (.int .i64 0))], .v (.mv)⟩] [0, 1])
   (.seq
    (.seq
     (.reg [⟨some 6, none, [.t 0], .v (.mv)⟩,
       ⟨some 7, none, [.t 6], .v (.len)⟩,
       ⟨some 8, none, [.c (.pv (.int .i64 0))], .v (.mv)⟩] [0, 1, 7, 8])
     (.block 0
      g107L0))
    (.seq
     (.reg [⟨some 4, none, [.c (.pv (.int .i64 (-1)))], .v (.mv)⟩] [4])
     .ret))), none, false⟩

/- typedholes/typedholesref2.word -/
def g108B0 : ACode :=
  (.seq
   (.seq
    (.reg [⟨some 4, none, [.t 3], .v (.mv)⟩,
      ⟨some 5, none, [.t 0], .v (.mv)⟩,
      ⟨some 6, none, [.t 5], .v (.lenS)⟩,
      ⟨some 7, none, [.t 4, .t 6], .v (.bin .lss)⟩] [0, 3, 7])
    (.cond (.t 7)
     .skip
     (.exit 0)))
   (.seq
    (.block 1
     (.seq
      (.reg [⟨some 10, none, [.t 0], .v (.mv)⟩,
        ⟨some 11, none, [.t 3], .v (.mv)⟩,
        ⟨some 12, none, [.t 10, .t 11], .v (.index)⟩,
        ⟨some 13, none, [.t 12], .callP 117⟩,
        ⟨some 14, none, [.t 13], .v (.un .not)⟩] [0, 3, 14])
      (.cond (.t 14)
       (.seq
        (.reg [⟨some 2, none, [.c (.pv (.bool false))], .v (.mv)⟩] [2])
        .ret)
       .skip)))
    (.reg [⟨some 8, none, [.t 3], .v (.mv)⟩,
      ⟨some 9, none, [.t 8, .c (.pv (.int .i64 1))], .v (.bin .add)⟩,
      ⟨some 3, none, [.t 9], .v (.mv)⟩] [0, 3])))
def g108L0 : ACode := .loop [0, 3] g108B0
theorem g108L0_eq {AP : Nat → Option AFunc} {st : St} : cl AP g108L0 st = after (cl AP g108L0) (cl AP g108B0 (norm (restrict [0, 3] st))) := cl_loop
def g108 : AFunc := ⟨1, 17, [.t 2],
  (.seq
   (.reg [⟨some 2, none, [.c (.pv (.bool false))], .v (.mv)⟩] [0])
   (.seq
    (.seq
     (.reg [⟨some 3, none, [.c (.pv (.int .i64 0))], .v (.mv)⟩] [0, 3])
     (.block 0
      g108L0))
    (.seq
     (.reg [⟨some 15, none, [.t 0], .v (.mv)⟩,
       ⟨some 16, none, [.t 15, .c (.pv (.str []))], .v (.bin .neq)⟩,
       ⟨some 2, none, [.t 16], .v (.mv)⟩] [2])
     .ret))), none, false⟩

/- typedholes/typedholesref2.lower -/
def g109 : AFunc := ⟨1, 9, [.t 2],
  (.seq
   (.reg [⟨some 2, none, [.c (.pv (.bool false))], .v (.mv)⟩] [0])
   (.seq
    (.reg [⟨some 3, none, [.t 0], .v (.mv)⟩,
      ⟨some 4, none, [.t 3, .c (.pv (.int .u8 97))], .v (.bin .geq)⟩,
      ⟨some 5, none, [.t 4], .v (.mv)⟩,
      ⟨some 6, some (5, true), [.t 0], .v (.mv)⟩,
      ⟨some 7, some (5, true), [.t 6, .c (.pv (.int .u8 122))], .v (.bin .leq)⟩,
      ⟨some 8, none, [.t 5, .t 7, .c (.pv (.bool false))], .v (.pick)⟩,
      ⟨some 2, none, [.t 8], .v (.mv)⟩] [2])
    .ret)), none, false⟩

/- typedholes/typedholesref2.Keyword -/
def g110B0 : ACode :=
  (.seq
   (.seq
    (.reg [⟨some 6, none, [.t 4], .v (.mv)⟩,
      ⟨some 7, none, [.t 3], .v (.mv)⟩,
      ⟨some 8, none, [.t 7], .v (.len)⟩,
      ⟨some 9, none, [.t 6, .t 8], .v (.bin .lss)⟩] [0, 3, 4, 9])
    (.cond (.t 9)
     .skip
     (.exit 0)))
   (.seq
    (.block 1
     (.seq
      (.reg [⟨some 12, none, [.t 3], .v (.mv)⟩,
        ⟨some 13, none, [.t 4], .v (.mv)⟩,
        ⟨some 14, none, [.t 12, .t 13], .v (.iaddr 1)⟩,
        ⟨some 15, none, [.t 14], .v (.loadE 1 false)⟩,
        ⟨some 16, none, [.t 0], .v (.mv)⟩,
        ⟨some 17, none, [.t 15, .t 16], .v (.bin .eql)⟩] [0, 3, 4, 17])
      (.cond (.t 17)
       (.seq
        (.reg [⟨some 2, none, [.c (.pv (.bool true))], .v (.mv)⟩] [2])
        .ret)
       .skip)))
    (.reg [⟨some 10, none, [.t 4], .v (.mv)⟩,
      ⟨some 11, none, [.t 10, .c (.pv (.int .i64 1))], .v (.bin .add)⟩,
      ⟨some 4, none, [.t 11], .v (.mv)⟩] [0, 3, 4])))
def g110L0 : ACode := .loop [0, 3, 4] g110B0
theorem g110L0_eq {AP : Nat → Option AFunc} {st : St} : cl AP g110L0 st = after (cl AP g110L0) (cl AP g110B0 (norm (restrict [0, 3, 4] st))) := cl_loop
def g110 : AFunc := ⟨1, 18, [.t 2],
  (.seq
   (.reg [⟨some 2, none, [.c (.pv (.bool false))], .v (.mv)⟩] [0])
   (.seq
    (.reg [⟨some 5, none, [.c (.pv (.str [100, 97, 116, 97])), .c (.pv (.str [108, 101, 116])), .c (.pv (.str [114, 101, 99])), .c (.pv (.str [105, 110])), .c (.pv (.str [99, 97, 115, 101])), .c (.pv (.str [111, 102])), .c (.pv (.str [101, 110, 100]))], .v (.bslice 1)⟩,
      ⟨some 3, none, [.t 5], .v (.mv)⟩] [0, 3])
    (.seq
     (.seq
      (.reg [⟨some 4, none, [.c (.pv (.int .i64 0))], .v (.mv)⟩] [0, 3, 4])
      (.block 0
       g110L0))
     (.seq
      (.reg [⟨some 2, none, [.c (.pv (.bool false))], .v (.mv)⟩] [2])
      .ret)))), none, false⟩

/- typedholes/typedholesref2.upper -/
def g111 : AFunc := ⟨1, 9, [.t 2],
  (.seq
   (.reg [⟨some 2, none, [.c (.pv (.bool false))], .v (.mv)⟩] [0])
   (.seq
    (.reg [⟨some 3, none, [.t 0], .v (.mv)⟩,
      ⟨some 4, none, [.t 3, .c (.pv (.int .u8 65))], .v (.bin .geq)⟩,
      ⟨some 5, none, [.t 4], .v (.mv)⟩,
      ⟨some 6, some (5, true), [.t 0], .v (.mv)⟩,
      ⟨some 7, some (5, true), [.t 6, .c (.pv (.int .u8 90))], .v (.bin .leq)⟩,
      ⟨some 8, none, [.t 5, .t 7, .c (.pv (.bool false))], .v (.pick)⟩,
      ⟨some 2, none, [.t 8], .v (.mv)⟩] [2])
    .ret)), none, false⟩

/- typedholes/typedholesref7.Parse -/
def g112B0 : ACode :=
  (.seq
   (.seq
    (.reg [⟨some 20, none, [.t 7], .v (.mv)⟩,
      ⟨some 21, none, [.t 20], .v (.nilchk)⟩,
      ⟨some 22, none, [.t 21], .v (.faddr 2)⟩,
      ⟨some 23, none, [.t 22], .loadS 1 false⟩,
      ⟨some 24, none, [.t 23], .v (.un .not)⟩,
      ⟨some 25, none, [.t 24], .v (.mv)⟩,
      ⟨some 26, some (25, true), [.t 7], .v (.mv)⟩,
      ⟨some 27, some (25, true), [.t 26], .v (.nilchk)⟩,
      ⟨some 28, some (25, true), [.t 27], .v (.faddr 1)⟩,
      ⟨some 29, some (25, true), [.t 28], .loadS 1 false⟩,
      ⟨some 30, some (25, true), [.t 4], .v (.mv)⟩,
      ⟨some 31, some (25, true), [.t 30], .v (.len)⟩,
      ⟨some 32, some (25, true), [.t 29, .t 31], .v (.bin .lss)⟩,
      ⟨some 33, none, [.t 25, .t 32, .c (.pv (.bool false))], .v (.pick)⟩] [2, 3, 4, 5, 6, 7, 33])
    (.cond (.t 33)
     .skip
     (.exit 0)))
   (.block 1
    (.seq
     (.reg [⟨some 34, none, [.t 7], .v (.mv)⟩,
       ⟨some 35, none, [.t 34, .c (.pv (.str [100, 97, 116, 97]))], .callI 120 []⟩] [2, 3, 4, 5, 6, 7, 35])
     (.cond (.t 35)
      (.reg [⟨some 36, none, [.t 6], .v (.faddr 0)⟩,
        ⟨some 37, none, [.t 36], .loadL 6 0 1 false⟩,
        ⟨some 38, none, [.t 7], .v (.mv)⟩,
        ⟨some 39, none, [.t 38], .callI 121 []⟩,
        ⟨some 40, none, [.t 39], .v (.bslice 4)⟩,
        ⟨some 41, none, [.t 37, .t 40], .append 4 72⟩,
        ⟨some 42, none, [.t 6], .v (.faddr 0)⟩,
        ⟨none, none, [.t 42, .t 41], .storeL 6 0 1⟩] [2, 3, 4, 5, 6, 7])
      (.reg [⟨some 43, none, [.t 6], .v (.faddr 1)⟩,
        ⟨some 44, none, [.t 43], .loadL 6 1 1 false⟩,
        ⟨some 45, none, [.t 7], .v (.mv)⟩,
        ⟨some 46, none, [.t 45], .callI 122 []⟩,
        ⟨some 47, none, [.t 46], .v (.bslice 20)⟩,
        ⟨some 48, none, [.t 44, .t 47], .append 20 256⟩,
        ⟨some 49, none, [.t 6], .v (.faddr 1)⟩,
        ⟨none, none, [.t 49, .t 48], .storeL 6 1 1⟩] [2, 3, 4, 5, 6, 7])))))
def g112L0 : ACode := .loop [2, 3, 4, 5, 6, 7] g112B0
theorem g112L0_eq {AP : Nat → Option AFunc} {st : St} : cl AP g112L0 st = after (cl AP g112L0) (cl AP g112B0 (norm (restrict [2, 3, 4, 5, 6, 7] st))) := cl_loop
def g112 : AFunc := ⟨1, 69, [.c 2 2 true, .c 3 2 true],
  (.seq
   (.reg [⟨some 2, none, [], .alloc 2 [.lst [], .lst []]⟩,
     ⟨some 3, none, [], .alloc 3 [.int .i64 0, .int .i64 0]⟩] [0, 2, 3])
   (.seq
    (.reg [⟨some 9, none, [.t 0], .v (.mv)⟩,
      ⟨some 10, none, [.t 9], .callP 118⟩,
      ⟨some 8, none, [.t 10], .v (.mv)⟩,
      ⟨some 11, none, [.t 8], .v (.ext 0)⟩,
      ⟨some 12, none, [.t 8], .v (.ext 1)⟩,
      ⟨some 5, none, [], .alloc 5 [.int .i64 0, .int .i64 0]⟩,
      ⟨some 4, none, [.t 11], .v (.mv)⟩,
      ⟨none, none, [.t 5, .t 12], .storeL 5 0 2⟩] [2, 3, 4, 5])
    (.seq
     (.seq
      (.reg [⟨some 13, none, [.t 5], .v (.faddr 0)⟩,
        ⟨some 14, none, [.t 13], .loadL 5 0 1 false⟩,
        ⟨some 15, none, [.t 14, .c (.pv (.int .i64 0))], .v (.bin .neq)⟩] [2, 3, 4, 5, 15])
      (.cond (.t 15)
       (.seq
        (.reg [⟨some 16, none, [], .v (.build [.lst [], .lst []] [])⟩,
          ⟨some 17, none, [.t 5], .loadL 5 0 2 true⟩,
          ⟨none, none, [.t 2, .t 16], .storeL 2 0 2⟩,
          ⟨none, none, [.t 3, .t 17], .storeL 3 0 2⟩] [2, 3])
        .ret)
       .skip))
     (.seq
      (.reg [⟨some 6, none, [], .alloc 6 [.lst [], .lst []]⟩] [2, 3, 4, 5, 6])
      (.seq
       (.reg [⟨some 18, none, [.t 4], .v (.mv)⟩,
         ⟨some 19, none, [.t 18, .c (.pv (.int .i64 0))], .callI 119 []⟩,
         ⟨some 7, none, [.t 19], .v (.mv)⟩] [2, 3, 4, 5, 6, 7])
       (.seq
        (.block 0
         g112L0)
        (.seq
         (.seq
          (.reg [⟨some 50, none, [.t 7], .v (.mv)⟩,
            ⟨some 51, none, [.t 50], .v (.nilchk)⟩,
            ⟨some 52, none, [.t 51], .v (.faddr 2)⟩,
            ⟨some 53, none, [.t 52], .loadS 1 false⟩] [2, 3, 5, 6, 7, 53])
          (.cond (.t 53)
           (.seq
            (.reg [⟨some 54, none, [], .v (.build [.lst [], .lst []] [])⟩,
              ⟨some 55, none, [.t 7], .v (.mv)⟩,
              ⟨some 56, none, [.t 55], .v (.nilchk)⟩,
              ⟨some 57, none, [.t 56], .v (.faddr 3)⟩,
              ⟨some 58, none, [.t 57], .loadS 1 false⟩,
              ⟨some 59, none, [.c (.pv (.int .i64 3)), .t 58], .v (.build [.int .i64 0, .int .i64 0] [(0, 1), (1, 1)])⟩,
              ⟨none, none, [.t 2, .t 54], .storeL 2 0 2⟩,
              ⟨none, none, [.t 3, .t 59], .storeL 3 0 2⟩] [2, 3])
            .ret)
           .skip))
         (.seq
          (.seq
           (.reg [⟨some 60, none, [.t 6], .loadL 6 0 2 true⟩,
             ⟨some 61, none, [.t 60], .callP 123⟩,
             ⟨none, none, [.t 5, .t 61], .storeL 5 0 2⟩] [2, 3, 5, 6])
           (.seq
            (.reg [⟨some 62, none, [.t 5], .v (.faddr 0)⟩,
              ⟨some 63, none, [.t 62], .loadL 5 0 1 false⟩,
              ⟨some 64, none, [.t 63, .c (.pv (.int .i64 0))], .v (.bin .neq)⟩] [2, 3, 5, 6, 64])
            (.cond (.t 64)
             (.seq
              (.reg [⟨some 65, none, [], .v (.build [.lst [], .lst []] [])⟩,
                ⟨some 66, none, [.t 5], .loadL 5 0 2 true⟩,
                ⟨none, none, [.t 2, .t 65], .storeL 2 0 2⟩,
                ⟨none, none, [.t 3, .t 66], .storeL 3 0 2⟩] [2, 3])
              .ret)
             .skip)))
          (.seq
           (.reg [⟨some 67, none, [.t 6], .loadL 6 0 2 true⟩,
             ⟨some 68, none, [.t 5], .loadL 5 0 2 true⟩,
             ⟨none, none, [.t 2, .t 67], .storeL 2 0 2⟩,
             ⟨none, none, [.t 3, .t 68], .storeL 3 0 2⟩] [2, 3])
           .ret))))))))), none, true⟩

/- cmp.isNaN[int] -/
def g113 : AFunc := ⟨1, 6, [.t 2],
  (.seq
   (.reg [⟨some 2, none, [.c (.pv (.bool false))], .v (.mv)⟩] [0])
   (.seq
    (.reg [⟨some 3, none, [.t 0], .v (.mv)⟩,
      ⟨some 4, none, [.t 0], .v (.mv)⟩,
      ⟨some 5, none, [.t 3, .t 4], .v (.bin .neq)⟩,
      ⟨some 2, none, [.t 5], .v (.mv)⟩] [2])
    .ret)), none, false⟩

/- cmp.isNaN[string] -/
def g114 : AFunc := ⟨1, 6, [.t 2],
  (.seq
   (.reg [⟨some 2, none, [.c (.pv (.bool false))], .v (.mv)⟩] [0])
   (.seq
    (.reg [⟨some 3, none, [.t 0], .v (.mv)⟩,
      ⟨some 4, none, [.t 0], .v (.mv)⟩,
      ⟨some 5, none, [.t 3, .t 4], .v (.bin .neq)⟩,
      ⟨some 2, none, [.t 5], .v (.mv)⟩] [2])
    .ret)), none, false⟩

/- slices.Index[[]int,int] -/
def g116B0 : ACode :=
  (.seq
   (.reg [⟨some 9, none, [.t 8, .t 7], .v (.bin .lss)⟩] [0, 1, 7, 8, 9])
   (.seq
    (.cond (.t 9)
     .skip
     (.exit 0))
    (.seq
     (.block 1
      (.seq
       (.reg [⟨some 10, none, [.t 8], .v (.mv)⟩,
         ⟨some 5, none, [.t 10], .v (.mv)⟩] [0, 1, 5, 7, 8])
       (.seq
        (.reg [⟨some 11, none, [.t 1], .v (.mv)⟩,
          ⟨some 12, none, [.t 0], .v (.mv)⟩,
          ⟨some 13, none, [.t 5], .v (.mv)⟩,
          ⟨some 14, none, [.t 12, .t 13], .v (.iaddr 1)⟩,
          ⟨some 15, none, [.t 14], .v (.loadE 1 false)⟩,
          ⟨some 16, none, [.t 11, .t 15], .v (.bin .eql)⟩] [0, 1, 5, 7, 8, 16])
        (.cond (.t 16)
         (.seq
          (.reg [⟨some 17, none, [.t 5], .v (.mv)⟩,
            ⟨some 4, none, [.t 17], .v (.mv)⟩] [4])
          .ret)
         .skip))))
     (.reg [⟨some 18, none, [.t 8, .c (.pv (.int .i64 1))], .v (.bin .add)⟩,
       ⟨some 8, none, [.t 18], .v (.mv)⟩] [0, 1, 7, 8]))))
def g116L0 : ACode := .loop [0, 1, 7, 8] g116B0
theorem g116L0_eq {AP : Nat → Option AFunc} {st : St} : cl AP g116L0 st = after (cl AP g116L0) (cl AP g116B0 (norm (restrict [0, 1, 7, 8] st))) := cl_loop
def g116 : AFunc := ⟨2, 19, [.t 4],
  (.seq
   (.reg [⟨some 4, none, [.c (.pv (.int .i64 0))], .v (.mv)⟩] [0, 1])
   (.seq
    (.seq
     (.reg [⟨some 6, none, [.t 0], .v (.mv)⟩,
       ⟨some 7, none, [.t 6], .v (.len)⟩,
       ⟨some 8, none, [.c (.pv (.int .i64 0))], .v (.mv)⟩] [0, 1, 7, 8])
     (.block 0
      g116L0))
    (.seq
     (.reg [⟨some 4, none, [.c (.pv (.int .i64 (-1)))], .v (.mv)⟩] [4])
     .ret))), none, false⟩

/- typedholes/typedholesref2.inner -/
def g117 : AFunc := ⟨1, 17, [.t 2],
  (.seq
   (.reg [⟨some 2, none, [.c (.pv (.bool false))], .v (.mv)⟩] [0])
   (.seq
    (.reg [⟨some 3, none, [.t 0], .v (.mv)⟩,
      ⟨some 4, none, [.t 3], .callP 109⟩,
      ⟨some 5, none, [.t 4], .v (.mv)⟩,
      ⟨some 6, some (5, false), [.t 0], .v (.mv)⟩,
      ⟨some 7, some (5, false), [.t 6], .callP 111⟩,
      ⟨some 8, none, [.t 5, .c (.pv (.bool true)), .t 7], .v (.pick)⟩,
      ⟨some 9, none, [.t 8], .v (.mv)⟩,
      ⟨some 10, some (9, false), [.t 0], .v (.mv)⟩,
      ⟨some 11, some (9, false), [.t 10], .callP 124⟩,
      ⟨some 12, none, [.t 9, .c (.pv (.bool true)), .t 11], .v (.pick)⟩,
      ⟨some 13, none, [.t 12], .v (.mv)⟩,
      ⟨some 14, some (13, false), [.t 0], .v (.mv)⟩,
      ⟨some 15, some (13, false), [.t 14, .c (.pv (.int .u8 95))], .v (.bin .eql)⟩,
      ⟨some 16, none, [.t 13, .c (.pv (.bool true)), .t 15], .v (.pick)⟩,
      ⟨some 2, none, [.t 16], .v (.mv)⟩] [2])
    .ret)), none, false⟩

/- typedholes/typedholesref2.Scan -/
def g118B1 : ACode :=
  (.seq
   (.seq
    (.reg [⟨some 42, none, [.t 5], .v (.mv)⟩,
      ⟨some 43, none, [.t 0], .v (.mv)⟩,
      ⟨some 44, none, [.t 43], .v (.lenS)⟩,
      ⟨some 45, none, [.t 42, .t 44], .v (.bin .lss)⟩,
      ⟨some 46, none, [.t 45], .v (.mv)⟩,
      ⟨some 47, some (46, true), [.t 0], .v (.mv)⟩,
      ⟨some 48, some (46, true), [.t 5], .v (.mv)⟩,
      ⟨some 49, some (46, true), [.t 47, .t 48], .v (.index)⟩,
      ⟨some 50, some (46, true), [.t 49, .c (.pv (.int .u8 10))], .v (.bin .neq)⟩,
      ⟨some 51, none, [.t 46, .t 50, .c (.pv (.bool false))], .v (.pick)⟩] [0, 3, 4, 5, 51])
    (.cond (.t 51)
     .skip
     (.exit 3)))
   (.block 4
    (.reg [⟨some 52, none, [.t 5], .v (.mv)⟩,
      ⟨some 53, none, [.t 52, .c (.pv (.int .i64 1))], .v (.bin .add)⟩,
      ⟨some 5, none, [.t 53], .v (.mv)⟩] [0, 3, 4, 5])))
def g118L1 : ACode := .loop [0, 3, 4, 5] g118B1
theorem g118L1_eq {AP : Nat → Option AFunc} {st : St} : cl AP g118L1 st = after (cl AP g118L1) (cl AP g118B1 (norm (restrict [0, 3, 4, 5] st))) := cl_loop
def g118B2 : ACode :=
  (.seq
   (.seq
    (.reg [⟨some 57, none, [.t 7], .v (.mv)⟩,
      ⟨some 58, none, [.t 0], .v (.mv)⟩,
      ⟨some 59, none, [.t 58], .v (.lenS)⟩,
      ⟨some 60, none, [.t 57, .t 59], .v (.bin .lss)⟩,
      ⟨some 61, none, [.t 60], .v (.mv)⟩,
      ⟨some 62, some (61, true), [.t 0], .v (.mv)⟩,
      ⟨some 63, some (61, true), [.t 7], .v (.mv)⟩,
      ⟨some 64, some (61, true), [.t 62, .t 63], .v (.index)⟩,
      ⟨some 65, some (61, true), [.t 64], .callP 117⟩,
      ⟨some 66, none, [.t 61, .t 65, .c (.pv (.bool false))], .v (.pick)⟩] [0, 3, 4, 5, 7, 66])
    (.cond (.t 66)
     .skip
     (.exit 5)))
   (.block 6
    (.reg [⟨some 67, none, [.t 7], .v (.mv)⟩,
      ⟨some 68, none, [.t 67, .c (.pv (.int .i64 1))], .v (.bin .add)⟩,
      ⟨some 7, none, [.t 68], .v (.mv)⟩] [0, 3, 4, 5, 7])))
def g118L2 : ACode := .loop [0, 3, 4, 5, 7] g118B2
theorem g118L2_eq {AP : Nat → Option AFunc} {st : St} : cl AP g118L2 st = after (cl AP g118L2) (cl AP g118B2 (norm (restrict [0, 3, 4, 5, 7] st))) := cl_loop
def g118B0 : ACode :=
  (.seq
   (.seq
    (.reg [⟨some 13, none, [.t 5], .v (.mv)⟩,
      ⟨some 14, none, [.t 0], .v (.mv)⟩,
      ⟨some 15, none, [.t 14], .v (.lenS)⟩,
      ⟨some 16, none, [.t 13, .t 15], .v (.bin .lss)⟩] [0, 3, 4, 5, 16])
    (.cond (.t 16)
     .skip
     (.exit 0)))
   (.block 1
    (.seq
     (.reg [⟨some 17, none, [.t 0], .v (.mv)⟩,
       ⟨some 18, none, [.t 5], .v (.mv)⟩,
       ⟨some 19, none, [.t 17, .t 18], .v (.index)⟩,
       ⟨some 6, none, [.t 19], .v (.mv)⟩] [0, 3, 4, 5, 6])
     (.seq
      (.reg [⟨some 20, none, [.t 5], .v (.mv)⟩,
        ⟨some 21, none, [.t 20, .c (.pv (.int .i64 1))], .v (.bin .add)⟩,
        ⟨some 7, none, [.t 21], .v (.mv)⟩] [0, 3, 4, 5, 6, 7])
      (.seq
       (.block 2
        (.seq
         (.reg [⟨some 23, none, [.t 6], .v (.mv)⟩,
           ⟨some 24, none, [.t 23, .c (.pv (.int .u8 32))], .v (.bin .eql)⟩,
           ⟨some 25, none, [.t 24], .v (.mv)⟩,
           ⟨some 26, some (25, false), [.t 6], .v (.mv)⟩,
           ⟨some 27, some (25, false), [.t 26, .c (.pv (.int .u8 9))], .v (.bin .eql)⟩,
           ⟨some 28, none, [.t 25, .c (.pv (.bool true)), .t 27], .v (.pick)⟩,
           ⟨some 29, none, [.t 28], .v (.mv)⟩,
           ⟨some 30, some (29, false), [.t 6], .v (.mv)⟩,
           ⟨some 31, some (29, false), [.t 30, .c (.pv (.int .u8 13))], .v (.bin .eql)⟩,
           ⟨some 32, none, [.t 29, .c (.pv (.bool true)), .t 31], .v (.pick)⟩,
           ⟨some 33, none, [.t 32], .v (.mv)⟩,
           ⟨some 34, some (33, false), [.t 6], .v (.mv)⟩,
           ⟨some 35, some (33, false), [.t 34, .c (.pv (.int .u8 10))], .v (.bin .eql)⟩,
           ⟨some 36, none, [.t 33, .c (.pv (.bool true)), .t 35], .v (.pick)⟩,
           ⟨some 22, none, [.t 36], .v (.mv)⟩] [0, 3, 4, 5, 6, 7, 22])
         (.cond (.t 22)
          (.seq
           (.reg [⟨some 37, none, [.t 5], .v (.mv)⟩,
             ⟨some 38, none, [.t 37, .c (.pv (.int .i64 1))], .v (.bin .add)⟩,
             ⟨some 5, none, [.t 38], .v (.mv)⟩] [0, 3, 4, 5])
           (.exit 1))
          (.seq
           (.reg [⟨some 40, none, [.t 6], .v (.mv)⟩,
             ⟨some 41, none, [.t 40, .c (.pv (.int .u8 35))], .v (.bin .eql)⟩,
             ⟨some 39, none, [.t 41], .v (.mv)⟩] [0, 3, 4, 5, 6, 7, 39])
           (.cond (.t 39)
            (.seq
             (.block 3
              g118L1)
             (.exit 1))
            (.seq
             (.reg [⟨some 55, none, [.t 6], .v (.mv)⟩,
               ⟨some 56, none, [.t 55], .callP 117⟩,
               ⟨some 54, none, [.t 56], .v (.mv)⟩] [0, 3, 4, 5, 6, 7, 54])
             (.cond (.t 54)
              (.block 5
               g118L2)
              (.seq
               (.reg [⟨some 70, none, [.t 6], .v (.mv)⟩,
                 ⟨some 71, none, [.t 70, .c (.pv (.int .u8 45))], .v (.bin .eql)⟩,
                 ⟨some 72, none, [.t 71], .v (.mv)⟩,
                 ⟨some 73, some (72, true), [.t 7], .v (.mv)⟩,
                 ⟨some 74, some (72, true), [.t 0], .v (.mv)⟩,
                 ⟨some 75, some (72, true), [.t 74], .v (.lenS)⟩,
                 ⟨some 76, some (72, true), [.t 73, .t 75], .v (.bin .lss)⟩,
                 ⟨some 77, none, [.t 72, .t 76, .c (.pv (.bool false))], .v (.pick)⟩,
                 ⟨some 78, none, [.t 77], .v (.mv)⟩,
                 ⟨some 79, some (78, true), [.t 0], .v (.mv)⟩,
                 ⟨some 80, some (78, true), [.t 7], .v (.mv)⟩,
                 ⟨some 81, some (78, true), [.t 79, .t 80], .v (.index)⟩,
                 ⟨some 82, some (78, true), [.t 81, .c (.pv (.int .u8 62))], .v (.bin .eql)⟩,
                 ⟨some 83, none, [.t 78, .t 82, .c (.pv (.bool false))], .v (.pick)⟩,
                 ⟨some 69, none, [.t 83], .v (.mv)⟩] [0, 3, 4, 5, 7, 69])
               (.cond (.t 69)
                (.reg [⟨some 84, none, [.t 7], .v (.mv)⟩,
                  ⟨some 85, none, [.t 84, .c (.pv (.int .i64 1))], .v (.bin .add)⟩,
                  ⟨some 7, none, [.t 85], .v (.mv)⟩] [0, 3, 4, 5, 7])
                .skip)))))))))
       (.seq
        (.reg [⟨some 86, none, [.t 0], .v (.mv)⟩,
          ⟨some 87, none, [.t 5], .v (.mv)⟩,
          ⟨some 88, none, [.t 7], .v (.mv)⟩,
          ⟨some 89, none, [.t 86, .t 87, .t 88], .v (.slice true 0 true true false)⟩,
          ⟨some 90, none, [.t 89], .callP 125⟩,
          ⟨some 8, none, [.t 90], .v (.mv)⟩] [0, 3, 4, 5, 7, 8])
        (.seq
         (.seq
          (.reg [⟨some 91, none, [.t 8], .v (.mv)⟩,
            ⟨some 92, none, [.t 91, .c (.pv (.int .i64 0))], .v (.bin .eql)⟩] [0, 3, 4, 5, 7, 8, 92])
          (.cond (.t 92)
           (.seq
            (.reg [⟨some 93, none, [.t 5], .v (.mv)⟩,
              ⟨some 94, none, [.c (.pv (.int .i64 2)), .t 93], .v (.build [.int .i64 0, .int .i64 0] [(0, 1), (1, 1)])⟩,
              ⟨some 2, none, [.c (.clp [])], .v (.mv)⟩,
              ⟨none, none, [.t 3, .t 94], .storeL 3 0 2⟩] [2, 3])
            .ret)
           .skip))
         (.seq
          (.reg [⟨some 95, none, [.t 4], .v (.mv)⟩,
            ⟨some 96, none, [.t 8], .v (.mv)⟩,
            ⟨some 97, none, [.t 0], .v (.mv)⟩,
            ⟨some 98, none, [.t 5], .v (.mv)⟩,
            ⟨some 99, none, [.t 7], .v (.mv)⟩,
            ⟨some 100, none, [.t 97, .t 98, .t 99], .v (.slice true 0 true true false)⟩,
            ⟨some 101, none, [.t 5], .v (.mv)⟩,
            ⟨some 102, none, [.t 96, .t 100, .t 101], .v (.build [.int .i64 0, .str [], .int .i64 0] [(0, 1), (1, 1), (2, 1)])⟩,
            ⟨some 103, none, [.t 102], .v (.bslice 3)⟩,
            ⟨some 104, none, [.t 95, .t 103], .append 3 32⟩,
            ⟨some 4, none, [.t 104], .v (.mv)⟩] [0, 3, 4, 7])
          (.reg [⟨some 105, none, [.t 7], .v (.mv)⟩,
            ⟨some 5, none, [.t 105], .v (.mv)⟩] [0, 3, 4, 5])))))))))
def g118L0 : ACode := .loop [0, 3, 4, 5] g118B0
theorem g118L0_eq {AP : Nat → Option AFunc} {st : St} : cl AP g118L0 st = after (cl AP g118L0) (cl AP g118B0 (norm (restrict [0, 3, 4, 5] st))) := cl_loop
def g118 : AFunc := ⟨1, 108, [.t 2, .c 3 2 true],
  (.seq
   (.reg [⟨some 2, none, [.c (.clp [])], .v (.mv)⟩,
     ⟨some 3, none, [], .alloc 3 [.int .i64 0, .int .i64 0]⟩] [0, 3])
   (.seq
    (.seq
     (.reg [⟨some 9, none, [.t 0], .v (.mv)⟩,
       ⟨some 10, none, [.t 9], .v (.lenS)⟩,
       ⟨some 11, none, [.t 10, .c (.pv (.int .i64 4000))], .v (.bin .gtr)⟩] [0, 3, 11])
     (.cond (.t 11)
      (.seq
       (.reg [⟨some 12, none, [.c (.pv (.int .i64 1))], .v (.build [.int .i64 0, .int .i64 0] [(0, 1)])⟩,
         ⟨some 2, none, [.c (.clp [])], .v (.mv)⟩,
         ⟨none, none, [.t 3, .t 12], .storeL 3 0 2⟩] [2, 3])
       .ret)
      .skip))
    (.seq
     (.reg [⟨some 4, none, [.c (.clp [])], .v (.mv)⟩] [0, 3, 4])
     (.seq
      (.seq
       (.reg [⟨some 5, none, [.c (.pv (.int .i64 0))], .v (.mv)⟩] [0, 3, 4, 5])
       (.block 0
        g118L0))
      (.seq
       (.reg [⟨some 106, none, [.t 4], .v (.mv)⟩,
         ⟨some 107, none, [], .v (.build [.int .i64 0, .int .i64 0] [])⟩,
         ⟨some 2, none, [.t 106], .v (.mv)⟩,
         ⟨none, none, [.t 3, .t 107], .storeL 3 0 2⟩] [2, 3])
       .ret))))), none, false⟩

/- typedholes/typedholesref5.New -/
def g119 : AFunc := ⟨2, 19, [.t 4],
  (.seq
   (.reg [⟨some 4, none, [.c (.nilp)], .v (.mv)⟩] [0, 1])
   (.seq
    (.seq
     (.reg [⟨some 5, none, [.t 1], .v (.mv)⟩,
       ⟨some 6, none, [.t 5, .c (.pv (.int .i64 0))], .v (.bin .lss)⟩,
       ⟨some 7, none, [.t 6], .v (.mv)⟩,
       ⟨some 8, some (7, false), [.t 1], .v (.mv)⟩,
       ⟨some 9, some (7, false), [.t 0], .v (.mv)⟩,
       ⟨some 10, some (7, false), [.t 9], .v (.len)⟩,
       ⟨some 11, some (7, false), [.t 8, .t 10], .v (.bin .gtr)⟩,
       ⟨some 12, none, [.t 7, .c (.pv (.bool true)), .t 11], .v (.pick)⟩] [0, 1, 12])
     (.cond (.t 12)
      (.reg [⟨some 13, none, [.t 0], .v (.mv)⟩,
        ⟨some 14, none, [.t 13], .v (.len)⟩,
        ⟨some 1, none, [.t 14], .v (.mv)⟩] [0, 1])
      .skip))
    (.seq
     (.reg [⟨some 15, none, [.t 0], .v (.mv)⟩,
       ⟨some 16, none, [.t 1], .v (.mv)⟩,
       ⟨some 17, none, [.t 15, .t 16], .v (.build [.lst [], .int .i64 0, .bool false, .int .i64 0] [(0, 1), (1, 1)])⟩,
       ⟨some 18, none, [.t 17], .boxS 4⟩,
       ⟨some 4, none, [.t 18], .v (.mv)⟩] [4])
     .ret))), none, false⟩

/- (*typedholes/typedholesref5.Reader).Is -/
def g120 : AFunc := ⟨2, 65, [.t 4],
  (.seq
   (.reg [⟨some 4, none, [.c (.pv (.bool false))], .v (.mv)⟩] [0, 1])
   (.seq
    (.reg [⟨some 5, none, [.t 0], .v (.mv)⟩,
      ⟨some 6, none, [.t 5], .v (.nilchk)⟩,
      ⟨some 7, none, [.t 6], .v (.faddr 2)⟩,
      ⟨some 8, none, [.t 7], .loadS 1 false⟩,
      ⟨some 9, none, [.t 8], .v (.un .not)⟩,
      ⟨some 10, none, [.t 9], .v (.mv)⟩,
      ⟨some 11, some (10, true), [.t 0], .v (.mv)⟩,
      ⟨some 12, some (10, true), [.t 11], .v (.nilchk)⟩,
      ⟨some 13, some (10, true), [.t 12], .v (.faddr 1)⟩,
      ⟨some 14, some (10, true), [.t 13], .loadS 1 false⟩,
      ⟨some 15, some (10, true), [.t 0], .v (.mv)⟩,
      ⟨some 16, some (10, true), [.t 15], .v (.nilchk)⟩,
      ⟨some 17, some (10, true), [.t 16], .v (.faddr 0)⟩,
      ⟨some 18, some (10, true), [.t 17], .loadS 1 false⟩,
      ⟨some 19, some (10, true), [.t 18], .v (.len)⟩,
      ⟨some 20, some (10, true), [.t 14, .t 19], .v (.bin .lss)⟩,
      ⟨some 21, none, [.t 10, .t 20, .c (.pv (.bool false))], .v (.pick)⟩,
      ⟨some 22, none, [.t 21], .v (.mv)⟩,
      ⟨some 23, some (22, true), [.t 0], .v (.mv)⟩,
      ⟨some 24, some (22, true), [.t 23], .v (.nilchk)⟩,
      ⟨some 25, some (22, true), [.t 24], .v (.faddr 0)⟩,
      ⟨some 26, some (22, true), [.t 25], .loadS 1 false⟩,
      ⟨some 27, some (22, true), [.t 0], .v (.mv)⟩,
      ⟨some 28, some (22, true), [.t 27], .v (.nilchk)⟩,
      ⟨some 29, some (22, true), [.t 28], .v (.faddr 1)⟩,
      ⟨some 30, some (22, true), [.t 29], .loadS 1 false⟩,
      ⟨some 31, some (22, true), [.t 26, .t 30], .v (.iaddr 3)⟩,
      ⟨some 32, some (22, true), [.t 31], .v (.faddr 0)⟩,
      ⟨some 33, some (22, true), [.t 32], .v (.loadE 1 false)⟩,
      ⟨some 34, some (22, true), [.t 33, .c (.pv (.int .i64 5))], .v (.bin .eql)⟩,
      ⟨some 35, some (22, true), [.t 34], .v (.mv)⟩,
      ⟨some 36, some (35, false), [.t 0], .v (.mv)⟩,
      ⟨some 37, some (35, false), [.t 36], .v (.nilchk)⟩,
      ⟨some 38, some (35, false), [.t 37], .v (.faddr 0)⟩,
      ⟨some 39, some (35, false), [.t 38], .loadS 1 false⟩,
      ⟨some 40, some (35, false), [.t 0], .v (.mv)⟩,
      ⟨some 41, some (35, false), [.t 40], .v (.nilchk)⟩,
      ⟨some 42, some (35, false), [.t 41], .v (.faddr 1)⟩,
      ⟨some 43, some (35, false), [.t 42], .loadS 1 false⟩,
      ⟨some 44, some (35, false), [.t 39, .t 43], .v (.iaddr 3)⟩,
      ⟨some 45, some (35, false), [.t 44], .v (.faddr 0)⟩,
      ⟨some 46, some (35, false), [.t 45], .v (.loadE 1 false)⟩,
      ⟨some 47, some (35, false), [.t 46, .c (.pv (.int .i64 4))], .v (.bin .eql)⟩,
      ⟨some 48, some (22, true), [.t 35, .c (.pv (.bool true)), .t 47], .v (.pick)⟩,
      ⟨some 49, none, [.t 22, .t 48, .c (.pv (.bool false))], .v (.pick)⟩,
      ⟨some 50, none, [.t 49], .v (.mv)⟩,
      ⟨some 51, some (50, true), [.t 0], .v (.mv)⟩,
      ⟨some 52, some (50, true), [.t 51], .v (.nilchk)⟩,
      ⟨some 53, some (50, true), [.t 52], .v (.faddr 0)⟩,
      ⟨some 54, some (50, true), [.t 53], .loadS 1 false⟩,
      ⟨some 55, some (50, true), [.t 0], .v (.mv)⟩,
      ⟨some 56, some (50, true), [.t 55], .v (.nilchk)⟩,
      ⟨some 57, some (50, true), [.t 56], .v (.faddr 1)⟩,
      ⟨some 58, some (50, true), [.t 57], .loadS 1 false⟩,
      ⟨some 59, some (50, true), [.t 54, .t 58], .v (.iaddr 3)⟩,
      ⟨some 60, some (50, true), [.t 59], .v (.faddr 1)⟩,
      ⟨some 61, some (50, true), [.t 60], .v (.loadE 1 false)⟩,
      ⟨some 62, some (50, true), [.t 1], .v (.mv)⟩,
      ⟨some 63, some (50, true), [.t 61, .t 62], .v (.bin .eql)⟩,
      ⟨some 64, none, [.t 50, .t 63, .c (.pv (.bool false))], .v (.pick)⟩,
      ⟨some 4, none, [.t 64], .v (.mv)⟩] [4])
    .ret)), none, false⟩

/- typedholes/typedholesref7.declaration -/
def g121B0 : ACode :=
  (.seq
   (.seq
    (.reg [⟨some 13, none, [.t 0], .v (.mv)⟩,
      ⟨some 14, none, [.t 13, .c (.pv (.int .i64 1))], .callI 129 []⟩] [0, 2, 3, 14])
    (.cond (.t 14)
     .skip
     (.exit 0)))
   (.block 1
    (.reg [⟨some 15, none, [.t 3], .v (.faddr 2)⟩,
      ⟨some 16, none, [.t 15], .loadL 3 2 1 false⟩,
      ⟨some 17, none, [.t 0], .v (.mv)⟩,
      ⟨some 18, none, [.t 17, .c (.pv (.int .i64 1))], .callI 128 []⟩,
      ⟨some 19, none, [.t 18], .v (.bslice 1)⟩,
      ⟨some 20, none, [.t 16, .t 19], .append 1 16⟩,
      ⟨some 21, none, [.t 3], .v (.faddr 2)⟩,
      ⟨none, none, [.t 21, .t 20], .storeL 3 2 1⟩] [0, 2, 3])))
def g121L0 : ACode := .loop [0, 2, 3] g121B0
theorem g121L0_eq {AP : Nat → Option AFunc} {st : St} : cl AP g121L0 st = after (cl AP g121L0) (cl AP g121B0 (norm (restrict [0, 2, 3] st))) := cl_loop
def g121B2 : ACode :=
  (.seq
   (.seq
    (.reg [⟨some 34, none, [.t 0], .v (.mv)⟩,
      ⟨some 35, none, [.t 34], .callI 130 []⟩] [0, 2, 3, 4, 35])
    (.cond (.t 35)
     .skip
     (.exit 4)))
   (.block 5
    (.reg [⟨some 36, none, [.t 4], .v (.faddr 2)⟩,
      ⟨some 37, none, [.t 36], .loadL 4 2 1 false⟩,
      ⟨some 38, none, [.t 0], .v (.mv)⟩,
      ⟨some 39, none, [.t 38], .callI 131 []⟩,
      ⟨some 40, none, [.t 39], .v (.bslice 5)⟩,
      ⟨some 41, none, [.t 37, .t 40], .append 5 64⟩,
      ⟨some 42, none, [.t 4], .v (.faddr 2)⟩,
      ⟨none, none, [.t 42, .t 41], .storeL 4 2 1⟩] [0, 2, 3, 4])))
def g121L2 : ACode := .loop [0, 2, 3, 4] g121B2
theorem g121L2_eq {AP : Nat → Option AFunc} {st : St} : cl AP g121L2 st = after (cl AP g121L2) (cl AP g121B2 (norm (restrict [0, 2, 3, 4] st))) := cl_loop
def g121B1 : ACode :=
  (.seq
   (.seq
    (.reg [⟨some 24, none, [.t 0], .v (.mv)⟩,
      ⟨some 25, none, [.t 24], .v (.nilchk)⟩,
      ⟨some 26, none, [.t 25], .v (.faddr 2)⟩,
      ⟨some 27, none, [.t 26], .loadS 1 false⟩,
      ⟨some 28, none, [.t 27], .v (.un .not)⟩] [0, 2, 3, 28])
    (.cond (.t 28)
     .skip
     (.exit 2)))
   (.block 3
    (.seq
     (.reg [⟨some 29, none, [.t 0], .v (.mv)⟩,
       ⟨some 30, none, [.t 29], .callI 126 []⟩,
       ⟨some 31, none, [.t 0], .v (.mv)⟩,
       ⟨some 32, none, [.t 31, .c (.pv (.int .i64 2))], .callI 128 []⟩,
       ⟨some 33, none, [.t 30, .t 32], .v (.build [.int .i64 0, .str [], .lst []] [(0, 1), (1, 1)])⟩,
       ⟨some 4, none, [], .alloc 4 [.int .i64 0, .str [], .lst []]⟩,
       ⟨none, none, [.t 4, .t 33], .storeL 4 0 3⟩] [0, 2, 3, 4])
     (.seq
      (.block 4
       g121L2)
      (.seq
       (.reg [⟨some 43, none, [.t 3], .v (.faddr 3)⟩,
         ⟨some 44, none, [.t 43], .loadL 3 3 1 false⟩,
         ⟨some 45, none, [.t 4], .loadL 4 0 3 true⟩,
         ⟨some 46, none, [.t 45], .v (.bslice 3)⟩,
         ⟨some 47, none, [.t 44, .t 46], .append 3 48⟩,
         ⟨some 48, none, [.t 3], .v (.faddr 3)⟩,
         ⟨none, none, [.t 48, .t 47], .storeL 3 3 1⟩] [0, 2, 3])
       (.seq
        (.reg [⟨some 49, none, [.t 0], .v (.mv)⟩,
          ⟨some 50, none, [.t 49, .c (.pv (.str [124]))], .callI 132 []⟩,
          ⟨some 51, none, [.t 50], .v (.un .not)⟩] [0, 2, 3, 51])
        (.cond (.t 51)
         (.exit 2)
         .skip)))))))
def g121L1 : ACode := .loop [0, 2, 3] g121B1
theorem g121L1_eq {AP : Nat → Option AFunc} {st : St} : cl AP g121L1 st = after (cl AP g121L1) (cl AP g121B1 (norm (restrict [0, 2, 3] st))) := cl_loop
def g121 : AFunc := ⟨1, 55, [.c 2 4 true],
  (.seq
   (.reg [⟨some 2, none, [], .alloc 2 [.int .i64 0, .str [], .lst [], .lst []]⟩] [0, 2])
   (.seq
    (.reg [⟨some 5, none, [.t 0], .v (.mv)⟩,
      ⟨some 6, none, [.t 5], .callI 126 []⟩,
      ⟨some 7, none, [.t 6], .v (.build [.int .i64 0, .str [], .lst [], .lst []] [(0, 1)])⟩,
      ⟨some 3, none, [], .alloc 3 [.int .i64 0, .str [], .lst [], .lst []]⟩,
      ⟨none, none, [.t 3, .t 7], .storeL 3 0 4⟩] [0, 2, 3])
    (.seq
     (.reg [⟨some 8, none, [.t 0], .v (.mv)⟩,
       ⟨some 9, none, [.t 8, .c (.pv (.str [100, 97, 116, 97]))], .callI 127 []⟩] [0, 2, 3])
     (.seq
      (.reg [⟨some 10, none, [.t 0], .v (.mv)⟩,
        ⟨some 11, none, [.t 10, .c (.pv (.int .i64 2))], .callI 128 []⟩,
        ⟨some 12, none, [.t 3], .v (.faddr 1)⟩,
        ⟨none, none, [.t 12, .t 11], .storeL 3 1 1⟩] [0, 2, 3])
      (.seq
       (.block 0
        g121L0)
       (.seq
        (.reg [⟨some 22, none, [.t 0], .v (.mv)⟩,
          ⟨some 23, none, [.t 22, .c (.pv (.str [61]))], .callI 127 []⟩] [0, 2, 3])
        (.seq
         (.block 2
          g121L1)
         (.seq
          (.reg [⟨some 52, none, [.t 0], .v (.mv)⟩,
            ⟨some 53, none, [.t 52, .c (.pv (.str [59]))], .callI 127 []⟩] [2, 3])
          (.seq
           (.reg [⟨some 54, none, [.t 3], .loadL 3 0 4 true⟩,
             ⟨none, none, [.t 2, .t 54], .storeL 2 0 4⟩] [2])
           .ret))))))))), none, false⟩

/- typedholes/typedholesref7.binding -/
def g122 : AFunc := ⟨1, 34, [.c 2 20 true],
  (.seq
   (.reg [⟨some 2, none, [], .alloc 2 [.int .i64 0, .bool false, .str [], .bool false, .int .i64 0, .str [], .int .i64 0, .int .i64 0, .lst [], .int .i64 0, .int .i64 0, .str [], .int .i64 0, .lst [], .lst [], .int .i64 0, .str [], .int .i64 0, .int .i64 0, .lst []]⟩] [0, 2])
   (.seq
    (.reg [⟨some 4, none, [.t 0], .v (.mv)⟩,
      ⟨some 5, none, [.t 4], .callI 126 []⟩,
      ⟨some 6, none, [.t 5], .v (.build [.int .i64 0, .bool false, .str [], .bool false, .int .i64 0, .str [], .int .i64 0, .int .i64 0, .lst [], .int .i64 0, .int .i64 0, .str [], .int .i64 0, .lst [], .lst [], .int .i64 0, .str [], .int .i64 0, .int .i64 0, .lst []] [(0, 1)])⟩,
      ⟨some 3, none, [], .alloc 3 [.int .i64 0, .bool false, .str [], .bool false, .int .i64 0, .str [], .int .i64 0, .int .i64 0, .lst [], .int .i64 0, .int .i64 0, .str [], .int .i64 0, .lst [], .lst [], .int .i64 0, .str [], .int .i64 0, .int .i64 0, .lst []]⟩,
      ⟨none, none, [.t 3, .t 6], .storeL 3 0 20⟩] [0, 2, 3])
    (.seq
     (.reg [⟨some 7, none, [.t 0], .v (.mv)⟩,
       ⟨some 8, none, [.t 7, .c (.pv (.str [108, 101, 116]))], .callI 127 []⟩] [0, 2, 3])
     (.seq
      (.reg [⟨some 9, none, [.t 0], .v (.mv)⟩,
        ⟨some 10, none, [.t 9, .c (.pv (.str [114, 101, 99]))], .callI 132 []⟩,
        ⟨some 11, none, [.t 3], .v (.faddr 1)⟩,
        ⟨none, none, [.t 11, .t 10], .storeL 3 1 1⟩] [0, 2, 3])
      (.seq
       (.reg [⟨some 12, none, [.t 0], .v (.mv)⟩,
         ⟨some 13, none, [.t 12, .c (.pv (.int .i64 1))], .callI 128 []⟩,
         ⟨some 14, none, [.t 3], .v (.faddr 2)⟩,
         ⟨none, none, [.t 14, .t 13], .storeL 3 2 1⟩] [0, 2, 3])
       (.seq
        (.seq
         (.reg [⟨some 15, none, [.t 0], .v (.mv)⟩,
           ⟨some 16, none, [.t 15, .c (.pv (.str [58]))], .callI 132 []⟩] [0, 2, 3, 16])
         (.cond (.t 16)
          (.seq
           (.reg [⟨some 17, none, [.t 3], .v (.faddr 3)⟩,
             ⟨none, none, [.t 17, .c (.pv (.bool true))], .storeL 3 3 1⟩] [0, 2, 3])
           (.reg [⟨some 18, none, [.t 0], .v (.mv)⟩,
             ⟨some 19, none, [.t 18], .callI 133 []⟩,
             ⟨some 20, none, [.t 3], .v (.faddr 4)⟩,
             ⟨none, none, [.t 20, .t 19], .storeL 3 4 5⟩] [0, 2, 3]))
          .skip))
        (.seq
         (.reg [⟨some 21, none, [.t 0], .v (.mv)⟩,
           ⟨some 22, none, [.t 21, .c (.pv (.str [61]))], .callI 127 []⟩] [0, 2, 3])
         (.seq
          (.seq
           (.reg [⟨some 23, none, [.t 0], .v (.mv)⟩,
             ⟨some 24, none, [.t 23], .v (.nilchk)⟩,
             ⟨some 25, none, [.t 24], .v (.faddr 2)⟩,
             ⟨some 26, none, [.t 25], .loadS 1 false⟩,
             ⟨some 27, none, [.t 26], .v (.un .not)⟩] [0, 2, 3, 27])
           (.cond (.t 27)
            (.reg [⟨some 28, none, [.t 0], .v (.mv)⟩,
              ⟨some 29, none, [.t 28], .callI 134 []⟩,
              ⟨some 30, none, [.t 3], .v (.faddr 9)⟩,
              ⟨none, none, [.t 30, .t 29], .storeL 3 9 11⟩] [0, 2, 3])
            .skip))
          (.seq
           (.reg [⟨some 31, none, [.t 0], .v (.mv)⟩,
             ⟨some 32, none, [.t 31, .c (.pv (.str [59]))], .callI 127 []⟩] [2, 3])
           (.seq
            (.reg [⟨some 33, none, [.t 3], .loadL 3 0 20 true⟩,
              ⟨none, none, [.t 2, .t 33], .storeL 2 0 20⟩] [2])
            .ret)))))))))), none, false⟩

/- typedholes/typedholesref7.Deep -/
def g123B1 : ACode :=
  (.seq
   (.seq
    (.reg [⟨some 43, none, [.t 5], .v (.mv)⟩,
      ⟨some 44, none, [.t 4], .v (.faddr 3)⟩,
      ⟨some 45, none, [.t 44], .loadL 4 3 1 false⟩,
      ⟨some 46, none, [.t 45], .v (.len)⟩,
      ⟨some 47, none, [.t 43, .t 46], .v (.bin .lss)⟩] [1, 2, 3, 4, 5, 47])
    (.cond (.t 47)
     .skip
     (.exit 2)))
   (.seq
    (.block 3
     (.seq
      (.reg [⟨some 50, none, [.t 4], .v (.faddr 3)⟩,
        ⟨some 51, none, [.t 50], .loadL 4 3 1 false⟩,
        ⟨some 52, none, [.t 5], .v (.mv)⟩,
        ⟨some 53, none, [.t 51, .t 52], .v (.iaddr 3)⟩,
        ⟨some 54, none, [.t 53], .v (.faddr 2)⟩,
        ⟨some 55, none, [.t 54], .v (.loadE 1 false)⟩,
        ⟨some 56, none, [.t 55], .v (.len)⟩,
        ⟨some 57, none, [.t 56, .c (.pv (.int .i64 4))], .v (.bin .gtr)⟩] [1, 2, 3, 4, 5, 57])
      (.cond (.t 57)
       (.seq
        (.reg [⟨some 58, none, [.t 4], .v (.faddr 3)⟩,
          ⟨some 59, none, [.t 58], .loadL 4 3 1 false⟩,
          ⟨some 60, none, [.t 5], .v (.mv)⟩,
          ⟨some 61, none, [.t 59, .t 60], .v (.iaddr 3)⟩,
          ⟨some 62, none, [.t 61], .v (.faddr 0)⟩,
          ⟨some 63, none, [.t 62], .v (.loadE 1 false)⟩,
          ⟨some 64, none, [.c (.pv (.int .i64 5)), .t 63], .v (.build [.int .i64 0, .int .i64 0] [(0, 1), (1, 1)])⟩,
          ⟨none, none, [.t 2, .t 64], .storeL 2 0 2⟩] [2])
        .ret)
       .skip)))
    (.reg [⟨some 48, none, [.t 5], .v (.mv)⟩,
      ⟨some 49, none, [.t 48, .c (.pv (.int .i64 1))], .v (.bin .add)⟩,
      ⟨some 5, none, [.t 49], .v (.mv)⟩] [1, 2, 3, 4, 5])))
def g123L1 : ACode := .loop [1, 2, 3, 4, 5] g123B1
theorem g123L1_eq {AP : Nat → Option AFunc} {st : St} : cl AP g123L1 st = after (cl AP g123L1) (cl AP g123B1 (norm (restrict [1, 2, 3, 4, 5] st))) := cl_loop
def g123B0 : ACode :=
  (.seq
   (.seq
    (.reg [⟨some 14, none, [.t 3], .v (.mv)⟩,
      ⟨some 15, none, [.t 1], .v (.faddr 0)⟩,
      ⟨some 16, none, [.t 15], .loadL 1 0 1 false⟩,
      ⟨some 17, none, [.t 16], .v (.len)⟩,
      ⟨some 18, none, [.t 14, .t 17], .v (.bin .lss)⟩] [1, 2, 3, 18])
    (.cond (.t 18)
     .skip
     (.exit 0)))
   (.seq
    (.block 1
     (.seq
      (.reg [⟨some 21, none, [.t 1], .v (.faddr 0)⟩,
        ⟨some 22, none, [.t 21], .loadL 1 0 1 false⟩,
        ⟨some 23, none, [.t 3], .v (.mv)⟩,
        ⟨some 24, none, [.t 22, .t 23], .v (.iaddr 4)⟩,
        ⟨some 25, none, [.t 24], .v (.loadE 4 true)⟩,
        ⟨some 4, none, [], .alloc 4 [.int .i64 0, .str [], .lst [], .lst []]⟩,
        ⟨none, none, [.t 4, .t 25], .storeL 4 0 4⟩] [1, 2, 3, 4])
      (.seq
       (.seq
        (.reg [⟨some 26, none, [.t 3], .v (.mv)⟩,
          ⟨some 27, none, [.t 26, .c (.pv (.int .i64 8))], .v (.bin .geq)⟩,
          ⟨some 28, none, [.t 27], .v (.mv)⟩,
          ⟨some 29, some (28, false), [.t 4], .v (.faddr 2)⟩,
          ⟨some 30, some (28, false), [.t 29], .loadL 4 2 1 false⟩,
          ⟨some 31, some (28, false), [.t 30], .v (.len)⟩,
          ⟨some 32, some (28, false), [.t 31, .c (.pv (.int .i64 4))], .v (.bin .gtr)⟩,
          ⟨some 33, none, [.t 28, .c (.pv (.bool true)), .t 32], .v (.pick)⟩,
          ⟨some 34, none, [.t 33], .v (.mv)⟩,
          ⟨some 35, some (34, false), [.t 4], .v (.faddr 3)⟩,
          ⟨some 36, some (34, false), [.t 35], .loadL 4 3 1 false⟩,
          ⟨some 37, some (34, false), [.t 36], .v (.len)⟩,
          ⟨some 38, some (34, false), [.t 37, .c (.pv (.int .i64 6))], .v (.bin .gtr)⟩,
          ⟨some 39, none, [.t 34, .c (.pv (.bool true)), .t 38], .v (.pick)⟩] [1, 2, 3, 4, 39])
        (.cond (.t 39)
         (.seq
          (.reg [⟨some 40, none, [.t 4], .v (.faddr 0)⟩,
            ⟨some 41, none, [.t 40], .loadL 4 0 1 false⟩,
            ⟨some 42, none, [.c (.pv (.int .i64 5)), .t 41], .v (.build [.int .i64 0, .int .i64 0] [(0, 1), (1, 1)])⟩,
            ⟨none, none, [.t 2, .t 42], .storeL 2 0 2⟩] [2])
          .ret)
         .skip))
       (.seq
        (.reg [⟨some 5, none, [.c (.pv (.int .i64 0))], .v (.mv)⟩] [1, 2, 3, 4, 5])
        (.block 2
         g123L1)))))
    (.reg [⟨some 19, none, [.t 3], .v (.mv)⟩,
      ⟨some 20, none, [.t 19, .c (.pv (.int .i64 1))], .v (.bin .add)⟩,
      ⟨some 3, none, [.t 20], .v (.mv)⟩] [1, 2, 3])))
def g123L0 : ACode := .loop [1, 2, 3] g123B0
theorem g123L0_eq {AP : Nat → Option AFunc} {st : St} : cl AP g123L0 st = after (cl AP g123L0) (cl AP g123B0 (norm (restrict [1, 2, 3] st))) := cl_loop
def g123B4 : ACode :=
  (.seq
   (.seq
    (.reg [⟨some 94, none, [.t 9], .v (.mv)⟩,
      ⟨some 95, none, [.t 7], .v (.faddr 3)⟩,
      ⟨some 96, none, [.t 95], .loadL 7 3 1 false⟩,
      ⟨some 97, none, [.t 8], .v (.mv)⟩,
      ⟨some 98, none, [.t 96, .t 97], .v (.iaddr 3)⟩,
      ⟨some 99, none, [.t 98], .v (.faddr 2)⟩,
      ⟨some 100, none, [.t 99], .v (.loadE 1 false)⟩,
      ⟨some 101, none, [.t 100], .v (.len)⟩,
      ⟨some 102, none, [.t 94, .t 101], .v (.bin .lss)⟩] [1, 2, 6, 7, 8, 9, 102])
    (.cond (.t 102)
     .skip
     (.exit 8)))
   (.seq
    (.block 9
     (.seq
      (.reg [⟨some 105, none, [.t 7], .v (.faddr 3)⟩,
        ⟨some 106, none, [.t 105], .loadL 7 3 1 false⟩,
        ⟨some 107, none, [.t 8], .v (.mv)⟩,
        ⟨some 108, none, [.t 106, .t 107], .v (.iaddr 3)⟩,
        ⟨some 109, none, [.t 108], .v (.faddr 2)⟩,
        ⟨some 110, none, [.t 109], .v (.loadE 1 false)⟩,
        ⟨some 111, none, [.t 9], .v (.mv)⟩,
        ⟨some 112, none, [.t 110, .t 111], .v (.iaddr 5)⟩,
        ⟨some 113, none, [.t 112], .v (.loadE 5 true)⟩,
        ⟨some 114, none, [.t 113], .callP 52⟩,
        ⟨some 115, none, [.t 114, .c (.pv (.int .i64 40))], .v (.bin .gtr)⟩] [1, 2, 6, 7, 8, 9, 115])
      (.cond (.t 115)
       (.seq
        (.reg [⟨some 116, none, [.t 7], .v (.faddr 0)⟩,
          ⟨some 117, none, [.t 116], .loadL 7 0 1 false⟩,
          ⟨some 118, none, [.c (.pv (.int .i64 4)), .t 117], .v (.build [.int .i64 0, .int .i64 0] [(0, 1), (1, 1)])⟩,
          ⟨none, none, [.t 2, .t 118], .storeL 2 0 2⟩] [2])
        .ret)
       .skip)))
    (.reg [⟨some 103, none, [.t 9], .v (.mv)⟩,
      ⟨some 104, none, [.t 103, .c (.pv (.int .i64 1))], .v (.bin .add)⟩,
      ⟨some 9, none, [.t 104], .v (.mv)⟩] [1, 2, 6, 7, 8, 9])))
def g123L4 : ACode := .loop [1, 2, 6, 7, 8, 9] g123B4
theorem g123L4_eq {AP : Nat → Option AFunc} {st : St} : cl AP g123L4 st = after (cl AP g123L4) (cl AP g123B4 (norm (restrict [1, 2, 6, 7, 8, 9] st))) := cl_loop
def g123B3 : ACode :=
  (.seq
   (.seq
    (.reg [⟨some 87, none, [.t 8], .v (.mv)⟩,
      ⟨some 88, none, [.t 7], .v (.faddr 3)⟩,
      ⟨some 89, none, [.t 88], .loadL 7 3 1 false⟩,
      ⟨some 90, none, [.t 89], .v (.len)⟩,
      ⟨some 91, none, [.t 87, .t 90], .v (.bin .lss)⟩] [1, 2, 6, 7, 8, 91])
    (.cond (.t 91)
     .skip
     (.exit 6)))
   (.seq
    (.block 7
     (.seq
      (.reg [⟨some 9, none, [.c (.pv (.int .i64 0))], .v (.mv)⟩] [1, 2, 6, 7, 8, 9])
      (.block 8
       g123L4)))
    (.reg [⟨some 92, none, [.t 8], .v (.mv)⟩,
      ⟨some 93, none, [.t 92, .c (.pv (.int .i64 1))], .v (.bin .add)⟩,
      ⟨some 8, none, [.t 93], .v (.mv)⟩] [1, 2, 6, 7, 8])))
def g123L3 : ACode := .loop [1, 2, 6, 7, 8] g123B3
theorem g123L3_eq {AP : Nat → Option AFunc} {st : St} : cl AP g123L3 st = after (cl AP g123L3) (cl AP g123B3 (norm (restrict [1, 2, 6, 7, 8] st))) := cl_loop
def g123B2 : ACode :=
  (.seq
   (.seq
    (.reg [⟨some 75, none, [.t 6], .v (.mv)⟩,
      ⟨some 76, none, [.t 1], .v (.faddr 0)⟩,
      ⟨some 77, none, [.t 76], .loadL 1 0 1 false⟩,
      ⟨some 78, none, [.t 77], .v (.len)⟩,
      ⟨some 79, none, [.t 75, .t 78], .v (.bin .lss)⟩] [1, 2, 6, 79])
    (.cond (.t 79)
     .skip
     (.exit 4)))
   (.seq
    (.block 5
     (.seq
      (.reg [⟨some 82, none, [.t 1], .v (.faddr 0)⟩,
        ⟨some 83, none, [.t 82], .loadL 1 0 1 false⟩,
        ⟨some 84, none, [.t 6], .v (.mv)⟩,
        ⟨some 85, none, [.t 83, .t 84], .v (.iaddr 4)⟩,
        ⟨some 86, none, [.t 85], .v (.loadE 4 true)⟩,
        ⟨some 7, none, [], .alloc 7 [.int .i64 0, .str [], .lst [], .lst []]⟩,
        ⟨none, none, [.t 7, .t 86], .storeL 7 0 4⟩] [1, 2, 6, 7])
      (.seq
       (.reg [⟨some 8, none, [.c (.pv (.int .i64 0))], .v (.mv)⟩] [1, 2, 6, 7, 8])
       (.block 6
        g123L3))))
    (.reg [⟨some 80, none, [.t 6], .v (.mv)⟩,
      ⟨some 81, none, [.t 80, .c (.pv (.int .i64 1))], .v (.bin .add)⟩,
      ⟨some 6, none, [.t 81], .v (.mv)⟩] [1, 2, 6])))
def g123L2 : ACode := .loop [1, 2, 6] g123B2
theorem g123L2_eq {AP : Nat → Option AFunc} {st : St} : cl AP g123L2 st = after (cl AP g123L2) (cl AP g123B2 (norm (restrict [1, 2, 6] st))) := cl_loop
def g123B5 : ACode :=
  (.seq
   (.seq
    (.reg [⟨some 119, none, [.t 10], .v (.mv)⟩,
      ⟨some 120, none, [.t 1], .v (.faddr 1)⟩,
      ⟨some 121, none, [.t 120], .loadL 1 1 1 false⟩,
      ⟨some 122, none, [.t 121], .v (.len)⟩,
      ⟨some 123, none, [.t 119, .t 122], .v (.bin .lss)⟩] [1, 2, 10, 123])
    (.cond (.t 123)
     .skip
     (.exit 10)))
   (.seq
    (.block 11
     (.seq
      (.reg [⟨some 126, none, [.t 1], .v (.faddr 1)⟩,
        ⟨some 127, none, [.t 126], .loadL 1 1 1 false⟩,
        ⟨some 128, none, [.t 10], .v (.mv)⟩,
        ⟨some 129, none, [.t 127, .t 128], .v (.iaddr 20)⟩,
        ⟨some 130, none, [.t 129], .v (.loadE 20 true)⟩,
        ⟨some 11, none, [], .alloc 11 [.int .i64 0, .bool false, .str [], .bool false, .int .i64 0, .str [], .int .i64 0, .int .i64 0, .lst [], .int .i64 0, .int .i64 0, .str [], .int .i64 0, .lst [], .lst [], .int .i64 0, .str [], .int .i64 0, .int .i64 0, .lst []]⟩,
        ⟨none, none, [.t 11, .t 130], .storeL 11 0 20⟩] [1, 2, 10, 11])
      (.seq
       (.seq
        (.reg [⟨some 131, none, [.t 11], .v (.faddr 3)⟩,
          ⟨some 132, none, [.t 131], .loadL 11 3 1 false⟩,
          ⟨some 133, none, [.t 132], .v (.mv)⟩,
          ⟨some 134, some (133, true), [.t 11], .v (.faddr 4)⟩,
          ⟨some 135, some (133, true), [.t 134], .loadL 11 4 5 true⟩,
          ⟨some 136, some (133, true), [.t 135], .callP 52⟩,
          ⟨some 137, some (133, true), [.t 136, .c (.pv (.int .i64 40))], .v (.bin .gtr)⟩,
          ⟨some 138, none, [.t 133, .t 137, .c (.pv (.bool false))], .v (.pick)⟩,
          ⟨some 139, none, [.t 138], .v (.mv)⟩,
          ⟨some 140, some (139, false), [.t 11], .v (.faddr 9)⟩,
          ⟨some 141, some (139, false), [.t 140], .loadL 11 9 11 true⟩,
          ⟨some 142, some (139, false), [.t 141], .callP 135⟩,
          ⟨some 143, none, [.t 139, .c (.pv (.bool true)), .t 142], .v (.pick)⟩] [1, 2, 10, 11, 143])
        (.cond (.t 143)
         (.seq
          (.reg [⟨some 144, none, [.t 11], .v (.faddr 0)⟩,
            ⟨some 145, none, [.t 144], .loadL 11 0 1 false⟩,
            ⟨some 146, none, [.c (.pv (.int .i64 4)), .t 145], .v (.build [.int .i64 0, .int .i64 0] [(0, 1), (1, 1)])⟩,
            ⟨none, none, [.t 2, .t 146], .storeL 2 0 2⟩] [2])
          .ret)
         .skip))
       (.seq
        (.reg [⟨some 148, none, [.t 11], .v (.faddr 9)⟩,
          ⟨some 149, none, [.t 148], .loadL 11 9 11 true⟩,
          ⟨some 150, none, [.t 149], .callP 136⟩,
          ⟨some 147, none, [.t 150], .v (.mv)⟩,
          ⟨some 151, none, [.t 147], .v (.ext 0)⟩,
          ⟨some 152, none, [.t 147], .v (.ext 1)⟩,
          ⟨some 12, none, [.t 151], .v (.mv)⟩,
          ⟨some 13, none, [.t 152], .v (.mv)⟩] [1, 2, 10, 12, 13])
        (.seq
         (.reg [⟨some 153, none, [.t 13], .v (.mv)⟩] [1, 2, 10, 12, 153])
         (.cond (.t 153)
          (.seq
           (.reg [⟨some 154, none, [.t 12], .v (.mv)⟩,
             ⟨some 155, none, [.c (.pv (.int .i64 5)), .t 154], .v (.build [.int .i64 0, .int .i64 0] [(0, 1), (1, 1)])⟩,
             ⟨none, none, [.t 2, .t 155], .storeL 2 0 2⟩] [2])
           .ret)
          .skip))))))
    (.reg [⟨some 124, none, [.t 10], .v (.mv)⟩,
      ⟨some 125, none, [.t 124, .c (.pv (.int .i64 1))], .v (.bin .add)⟩,
      ⟨some 10, none, [.t 125], .v (.mv)⟩] [1, 2, 10])))
def g123L5 : ACode := .loop [1, 2, 10] g123B5
theorem g123L5_eq {AP : Nat → Option AFunc} {st : St} : cl AP g123L5 st = after (cl AP g123L5) (cl AP g123B5 (norm (restrict [1, 2, 10] st))) := cl_loop
def g123 : AFunc := ⟨1, 157, [.c 2 2 true],
  (.seq
   (.reg [⟨some 1, none, [.t 0], .box 1 2⟩,
     ⟨some 2, none, [], .alloc 2 [.int .i64 0, .int .i64 0]⟩] [1, 2])
   (.seq
    (.seq
     (.reg [⟨some 3, none, [.c (.pv (.int .i64 0))], .v (.mv)⟩] [1, 2, 3])
     (.block 0
      g123L0))
    (.seq
     (.seq
      (.reg [⟨some 65, none, [.t 1], .v (.faddr 1)⟩,
        ⟨some 66, none, [.t 65], .loadL 1 1 1 false⟩,
        ⟨some 67, none, [.t 66], .v (.len)⟩,
        ⟨some 68, none, [.t 67, .c (.pv (.int .i64 16))], .v (.bin .gtr)⟩] [1, 2, 68])
      (.cond (.t 68)
       (.seq
        (.reg [⟨some 69, none, [.t 1], .v (.faddr 1)⟩,
          ⟨some 70, none, [.t 69], .loadL 1 1 1 false⟩,
          ⟨some 71, none, [.t 70, .c (.pv (.int .i64 16))], .v (.iaddr 20)⟩,
          ⟨some 72, none, [.t 71], .v (.faddr 0)⟩,
          ⟨some 73, none, [.t 72], .v (.loadE 1 false)⟩,
          ⟨some 74, none, [.c (.pv (.int .i64 5)), .t 73], .v (.build [.int .i64 0, .int .i64 0] [(0, 1), (1, 1)])⟩,
          ⟨none, none, [.t 2, .t 74], .storeL 2 0 2⟩] [2])
        .ret)
       .skip))
     (.seq
      (.seq
       (.reg [⟨some 6, none, [.c (.pv (.int .i64 0))], .v (.mv)⟩] [1, 2, 6])
       (.block 4
        g123L2))
      (.seq
       (.seq
        (.reg [⟨some 10, none, [.c (.pv (.int .i64 0))], .v (.mv)⟩] [1, 2, 10])
        (.block 10
         g123L5))
       (.seq
        (.reg [⟨some 156, none, [], .v (.build [.int .i64 0, .int .i64 0] [])⟩,
          ⟨none, none, [.t 2, .t 156], .storeL 2 0 2⟩] [2])
        .ret)))))), none, false⟩

/- typedholes/typedholesref2.digit -/
def g124 : AFunc := ⟨1, 9, [.t 2],
  (.seq
   (.reg [⟨some 2, none, [.c (.pv (.bool false))], .v (.mv)⟩] [0])
   (.seq
    (.reg [⟨some 3, none, [.t 0], .v (.mv)⟩,
      ⟨some 4, none, [.t 3, .c (.pv (.int .u8 48))], .v (.bin .geq)⟩,
      ⟨some 5, none, [.t 4], .v (.mv)⟩,
      ⟨some 6, some (5, true), [.t 0], .v (.mv)⟩,
      ⟨some 7, some (5, true), [.t 6, .c (.pv (.int .u8 57))], .v (.bin .leq)⟩,
      ⟨some 8, none, [.t 5, .t 7, .c (.pv (.bool false))], .v (.pick)⟩,
      ⟨some 2, none, [.t 8], .v (.mv)⟩] [2])
    .ret)), none, false⟩

/- typedholes/typedholesref2.Kind -/
def g125 : AFunc := ⟨1, 18, [.t 2],
  (.seq
   (.reg [⟨some 2, none, [.c (.pv (.int .i64 0))], .v (.mv)⟩] [0])
   (.seq
    (.block 0
     (.seq
      (.reg [⟨some 4, none, [.t 0], .v (.mv)⟩,
        ⟨some 5, none, [.t 4], .callP 110⟩,
        ⟨some 3, none, [.t 5], .v (.mv)⟩] [0, 3])
      (.cond (.t 3)
       (.seq
        (.reg [⟨some 2, none, [.c (.pv (.int .i64 4))], .v (.mv)⟩] [2])
        .ret)
       (.seq
        (.reg [⟨some 7, none, [.t 0], .v (.mv)⟩,
          ⟨some 8, none, [.t 7], .callP 77⟩,
          ⟨some 6, none, [.t 8], .v (.mv)⟩] [0, 6])
        (.cond (.t 6)
         (.seq
          (.reg [⟨some 2, none, [.c (.pv (.int .i64 1))], .v (.mv)⟩] [2])
          .ret)
         (.seq
          (.reg [⟨some 10, none, [.t 0], .v (.mv)⟩,
            ⟨some 11, none, [.t 10], .callP 78⟩,
            ⟨some 9, none, [.t 11], .v (.mv)⟩] [0, 9])
          (.cond (.t 9)
           (.seq
            (.reg [⟨some 2, none, [.c (.pv (.int .i64 2))], .v (.mv)⟩] [2])
            .ret)
           (.seq
            (.reg [⟨some 13, none, [.t 0], .v (.mv)⟩,
              ⟨some 14, none, [.t 13], .callP 137⟩,
              ⟨some 12, none, [.t 14], .v (.mv)⟩] [0, 12])
            (.cond (.t 12)
             (.seq
              (.reg [⟨some 2, none, [.c (.pv (.int .i64 3))], .v (.mv)⟩] [2])
              .ret)
             (.seq
              (.reg [⟨some 16, none, [.t 0], .v (.mv)⟩,
                ⟨some 17, none, [.t 16], .callP 138⟩,
                ⟨some 15, none, [.t 17], .v (.mv)⟩] [15])
              (.cond (.t 15)
               (.seq
                (.reg [⟨some 2, none, [.c (.pv (.int .i64 5))], .v (.mv)⟩] [2])
                .ret)
               .skip)))))))))))
    (.seq
     (.reg [⟨some 2, none, [.c (.pv (.int .i64 0))], .v (.mv)⟩] [2])
     .ret))), none, false⟩

/- (*typedholes/typedholesref5.Reader).Pos -/
def g126 : AFunc := ⟨1, 24, [.t 2],
  (.seq
   (.reg [⟨some 2, none, [.c (.pv (.int .i64 0))], .v (.mv)⟩] [0])
   (.seq
    (.seq
     (.reg [⟨some 3, none, [.t 0], .v (.mv)⟩,
       ⟨some 4, none, [.t 3], .v (.nilchk)⟩,
       ⟨some 5, none, [.t 4], .v (.faddr 1)⟩,
       ⟨some 6, none, [.t 5], .loadS 1 false⟩,
       ⟨some 7, none, [.t 0], .v (.mv)⟩,
       ⟨some 8, none, [.t 7], .v (.nilchk)⟩,
       ⟨some 9, none, [.t 8], .v (.faddr 0)⟩,
       ⟨some 10, none, [.t 9], .loadS 1 false⟩,
       ⟨some 11, none, [.t 10], .v (.len)⟩,
       ⟨some 12, none, [.t 6, .t 11], .v (.bin .lss)⟩] [0, 12])
     (.cond (.t 12)
      (.seq
       (.reg [⟨some 13, none, [.t 0], .v (.mv)⟩,
         ⟨some 14, none, [.t 13], .v (.nilchk)⟩,
         ⟨some 15, none, [.t 14], .v (.faddr 0)⟩,
         ⟨some 16, none, [.t 15], .loadS 1 false⟩,
         ⟨some 17, none, [.t 0], .v (.mv)⟩,
         ⟨some 18, none, [.t 17], .v (.nilchk)⟩,
         ⟨some 19, none, [.t 18], .v (.faddr 1)⟩,
         ⟨some 20, none, [.t 19], .loadS 1 false⟩,
         ⟨some 21, none, [.t 16, .t 20], .v (.iaddr 3)⟩,
         ⟨some 22, none, [.t 21], .v (.faddr 2)⟩,
         ⟨some 23, none, [.t 22], .v (.loadE 1 false)⟩,
         ⟨some 2, none, [.t 23], .v (.mv)⟩] [2])
       .ret)
      .skip))
    (.seq
     (.reg [⟨some 2, none, [.c (.pv (.int .i64 0))], .v (.mv)⟩] [2])
     .ret))), none, false⟩

/- (*typedholes/typedholesref5.Reader).Need -/
def g127 : AFunc := ⟨2, 10, [],
  (.seq
   (.reg [⟨some 4, none, [.t 0], .v (.mv)⟩,
     ⟨some 5, none, [.t 1], .v (.mv)⟩,
     ⟨some 6, none, [.t 4, .t 5], .callI 132 []⟩,
     ⟨some 7, none, [.t 6], .v (.un .not)⟩] [0, 7])
   (.cond (.t 7)
    (.reg [⟨some 8, none, [.t 0], .v (.mv)⟩,
      ⟨some 9, none, [.t 8], .callI 139 []⟩] [])
    .skip)), none, false⟩

/- (*typedholes/typedholesref5.Reader).Word -/
def g128 : AFunc := ⟨2, 30, [.t 4],
  (.seq
   (.reg [⟨some 4, none, [.c (.pv (.str []))], .v (.mv)⟩] [0, 1])
   (.seq
    (.seq
     (.reg [⟨some 5, none, [.t 0], .v (.mv)⟩,
       ⟨some 6, none, [.t 1], .v (.mv)⟩,
       ⟨some 7, none, [.t 5, .t 6], .callI 129 []⟩,
       ⟨some 8, none, [.t 7], .v (.un .not)⟩] [0, 8])
     (.cond (.t 8)
      (.seq
       (.reg [⟨some 9, none, [.t 0], .v (.mv)⟩,
         ⟨some 10, none, [.t 9], .callI 139 []⟩] [])
       (.seq
        (.reg [⟨some 4, none, [.c (.pv (.str []))], .v (.mv)⟩] [4])
        .ret))
      .skip))
    (.seq
     (.reg [⟨some 11, none, [.t 0], .v (.mv)⟩,
       ⟨some 12, none, [.t 11], .v (.nilchk)⟩,
       ⟨some 13, none, [.t 12], .v (.faddr 1)⟩,
       ⟨some 14, none, [.t 13], .loadS 1 false⟩,
       ⟨some 15, none, [.t 14, .c (.pv (.int .i64 1))], .v (.bin .add)⟩,
       ⟨some 16, none, [.t 11], .v (.nilchk)⟩,
       ⟨some 17, none, [.t 16], .v (.faddr 1)⟩,
       ⟨none, none, [.t 17, .t 15], .storeS 1⟩] [0])
     (.seq
      (.reg [⟨some 18, none, [.t 0], .v (.mv)⟩,
        ⟨some 19, none, [.t 18], .v (.nilchk)⟩,
        ⟨some 20, none, [.t 19], .v (.faddr 0)⟩,
        ⟨some 21, none, [.t 20], .loadS 1 false⟩,
        ⟨some 22, none, [.t 0], .v (.mv)⟩,
        ⟨some 23, none, [.t 22], .v (.nilchk)⟩,
        ⟨some 24, none, [.t 23], .v (.faddr 1)⟩,
        ⟨some 25, none, [.t 24], .loadS 1 false⟩,
        ⟨some 26, none, [.t 25, .c (.pv (.int .i64 1))], .v (.bin .sub)⟩,
        ⟨some 27, none, [.t 21, .t 26], .v (.iaddr 3)⟩,
        ⟨some 28, none, [.t 27], .v (.faddr 1)⟩,
        ⟨some 29, none, [.t 28], .v (.loadE 1 false)⟩,
        ⟨some 4, none, [.t 29], .v (.mv)⟩] [4])
      .ret)))), none, false⟩

/- (*typedholes/typedholesref5.Reader).Kind -/
def g129 : AFunc := ⟨2, 37, [.t 4],
  (.seq
   (.reg [⟨some 4, none, [.c (.pv (.bool false))], .v (.mv)⟩] [0, 1])
   (.seq
    (.reg [⟨some 5, none, [.t 0], .v (.mv)⟩,
      ⟨some 6, none, [.t 5], .v (.nilchk)⟩,
      ⟨some 7, none, [.t 6], .v (.faddr 2)⟩,
      ⟨some 8, none, [.t 7], .loadS 1 false⟩,
      ⟨some 9, none, [.t 8], .v (.un .not)⟩,
      ⟨some 10, none, [.t 9], .v (.mv)⟩,
      ⟨some 11, some (10, true), [.t 0], .v (.mv)⟩,
      ⟨some 12, some (10, true), [.t 11], .v (.nilchk)⟩,
      ⟨some 13, some (10, true), [.t 12], .v (.faddr 1)⟩,
      ⟨some 14, some (10, true), [.t 13], .loadS 1 false⟩,
      ⟨some 15, some (10, true), [.t 0], .v (.mv)⟩,
      ⟨some 16, some (10, true), [.t 15], .v (.nilchk)⟩,
      ⟨some 17, some (10, true), [.t 16], .v (.faddr 0)⟩,
      ⟨some 18, some (10, true), [.t 17], .loadS 1 false⟩,
      ⟨some 19, some (10, true), [.t 18], .v (.len)⟩,
      ⟨some 20, some (10, true), [.t 14, .t 19], .v (.bin .lss)⟩,
      ⟨some 21, none, [.t 10, .t 20, .c (.pv (.bool false))], .v (.pick)⟩,
      ⟨some 22, none, [.t 21], .v (.mv)⟩,
      ⟨some 23, some (22, true), [.t 0], .v (.mv)⟩,
      ⟨some 24, some (22, true), [.t 23], .v (.nilchk)⟩,
      ⟨some 25, some (22, true), [.t 24], .v (.faddr 0)⟩,
      ⟨some 26, some (22, true), [.t 25], .loadS 1 false⟩,
      ⟨some 27, some (22, true), [.t 0], .v (.mv)⟩,
      ⟨some 28, some (22, true), [.t 27], .v (.nilchk)⟩,
      ⟨some 29, some (22, true), [.t 28], .v (.faddr 1)⟩,
      ⟨some 30, some (22, true), [.t 29], .loadS 1 false⟩,
      ⟨some 31, some (22, true), [.t 26, .t 30], .v (.iaddr 3)⟩,
      ⟨some 32, some (22, true), [.t 31], .v (.faddr 0)⟩,
      ⟨some 33, some (22, true), [.t 32], .v (.loadE 1 false)⟩,
      ⟨some 34, some (22, true), [.t 1], .v (.mv)⟩,
      ⟨some 35, some (22, true), [.t 33, .t 34], .v (.bin .eql)⟩,
      ⟨some 36, none, [.t 22, .t 35, .c (.pv (.bool false))], .v (.pick)⟩,
      ⟨some 4, none, [.t 36], .v (.mv)⟩] [4])
    .ret)), none, false⟩

/- (*typedholes/typedholesref5.Reader).Atoms -/
def g130 : AFunc := ⟨1, 13, [.t 2],
  (.seq
   (.reg [⟨some 2, none, [.c (.pv (.bool false))], .v (.mv)⟩] [0])
   (.seq
    (.reg [⟨some 3, none, [.t 0], .v (.mv)⟩,
      ⟨some 4, none, [.t 3, .c (.pv (.int .i64 1))], .callI 129 []⟩,
      ⟨some 5, none, [.t 4], .v (.mv)⟩,
      ⟨some 6, some (5, false), [.t 0], .v (.mv)⟩,
      ⟨some 7, some (5, false), [.t 6, .c (.pv (.int .i64 2))], .callI 129 []⟩,
      ⟨some 8, none, [.t 5, .c (.pv (.bool true)), .t 7], .v (.pick)⟩,
      ⟨some 9, none, [.t 8], .v (.mv)⟩,
      ⟨some 10, some (9, false), [.t 0], .v (.mv)⟩,
      ⟨some 11, some (9, false), [.t 10, .c (.pv (.str [40]))], .callI 120 []⟩,
      ⟨some 12, none, [.t 9, .c (.pv (.bool true)), .t 11], .v (.pick)⟩,
      ⟨some 2, none, [.t 12], .v (.mv)⟩] [2])
    .ret)), none, false⟩

/- (*typedholes/typedholesref5.Reader).Atom -/
def g131 : AFunc := ⟨1, 28, [.c 2 5 true],
  (.seq
   (.reg [⟨some 2, none, [], .alloc 2 [.int .i64 0, .str [], .int .i64 0, .int .i64 0, .lst []]⟩] [0, 2])
   (.seq
    (.block 0
     (.seq
      (.reg [⟨some 5, none, [.t 0], .v (.mv)⟩,
        ⟨some 6, none, [.t 5, .c (.pv (.int .i64 1))], .callI 129 []⟩,
        ⟨some 4, none, [.t 6], .v (.mv)⟩] [0, 2, 4])
      (.cond (.t 4)
       (.seq
        (.reg [⟨some 7, none, [.t 0], .v (.mv)⟩,
          ⟨some 8, none, [.t 7, .c (.pv (.int .i64 1))], .callI 128 []⟩,
          ⟨some 9, none, [.t 8], .callP 106⟩,
          ⟨none, none, [.t 2, .t 9], .storeL 2 0 5⟩] [2])
        .ret)
       (.seq
        (.reg [⟨some 11, none, [.t 0], .v (.mv)⟩,
          ⟨some 12, none, [.t 11, .c (.pv (.int .i64 2))], .callI 129 []⟩,
          ⟨some 10, none, [.t 12], .v (.mv)⟩] [0, 2, 10])
        (.cond (.t 10)
         (.seq
          (.reg [⟨some 13, none, [.t 0], .v (.mv)⟩,
            ⟨some 14, none, [.t 13, .c (.pv (.int .i64 2))], .callI 128 []⟩,
            ⟨some 15, none, [.t 14, .c (.clp [])], .callI 62 []⟩,
            ⟨none, none, [.t 2, .t 15], .storeL 2 0 5⟩] [2])
          .ret)
         .skip)))))
    (.seq
     (.reg [⟨some 16, none, [.t 0], .v (.mv)⟩,
       ⟨some 17, none, [.t 16, .c (.pv (.str [40]))], .callI 127 []⟩] [0, 2])
     (.seq
      (.seq
       (.reg [⟨some 18, none, [.t 0], .v (.mv)⟩,
         ⟨some 19, none, [.t 18], .v (.nilchk)⟩,
         ⟨some 20, none, [.t 19], .v (.faddr 2)⟩,
         ⟨some 21, none, [.t 20], .loadS 1 false⟩] [0, 2, 21])
       (.cond (.t 21)
        (.seq
         (.reg [⟨some 22, none, [], .v (.build [.int .i64 0, .str [], .int .i64 0, .int .i64 0, .lst []] [])⟩,
           ⟨none, none, [.t 2, .t 22], .storeL 2 0 5⟩] [2])
         .ret)
        .skip))
      (.seq
       (.reg [⟨some 23, none, [.t 0], .v (.mv)⟩,
         ⟨some 24, none, [.t 23], .callI 133 []⟩,
         ⟨some 3, none, [], .alloc 3 [.int .i64 0, .str [], .int .i64 0, .int .i64 0, .lst []]⟩,
         ⟨none, none, [.t 3, .t 24], .storeL 3 0 5⟩] [0, 2, 3])
       (.seq
        (.reg [⟨some 25, none, [.t 0], .v (.mv)⟩,
          ⟨some 26, none, [.t 25, .c (.pv (.str [41]))], .callI 127 []⟩] [2, 3])
        (.seq
         (.reg [⟨some 27, none, [.t 3], .loadL 3 0 5 true⟩,
           ⟨none, none, [.t 2, .t 27], .storeL 2 0 5⟩] [2])
         .ret))))))), none, false⟩

/- (*typedholes/typedholesref5.Reader).Skip -/
def g132 : AFunc := ⟨2, 15, [.t 4],
  (.seq
   (.reg [⟨some 4, none, [.c (.pv (.bool false))], .v (.mv)⟩] [0, 1])
   (.seq
    (.seq
     (.reg [⟨some 5, none, [.t 0], .v (.mv)⟩,
       ⟨some 6, none, [.t 1], .v (.mv)⟩,
       ⟨some 7, none, [.t 5, .t 6], .callI 120 []⟩] [0, 7])
     (.cond (.t 7)
      (.seq
       (.reg [⟨some 8, none, [.t 0], .v (.mv)⟩,
         ⟨some 9, none, [.t 8], .v (.nilchk)⟩,
         ⟨some 10, none, [.t 9], .v (.faddr 1)⟩,
         ⟨some 11, none, [.t 10], .loadS 1 false⟩,
         ⟨some 12, none, [.t 11, .c (.pv (.int .i64 1))], .v (.bin .add)⟩,
         ⟨some 13, none, [.t 8], .v (.nilchk)⟩,
         ⟨some 14, none, [.t 13], .v (.faddr 1)⟩,
         ⟨none, none, [.t 14, .t 12], .storeS 1⟩] [])
       (.seq
        (.reg [⟨some 4, none, [.c (.pv (.bool true))], .v (.mv)⟩] [4])
        .ret))
      .skip))
    (.seq
     (.reg [⟨some 4, none, [.c (.pv (.bool false))], .v (.mv)⟩] [4])
     .ret))), none, false⟩

/- (*typedholes/typedholesref5.Reader).Type -/
def g133B0 : ACode :=
  (.seq
   (.seq
    (.reg [⟨some 9, none, [.t 0], .v (.mv)⟩,
      ⟨some 10, none, [.t 9], .callI 130 []⟩] [0, 2, 3, 10])
    (.cond (.t 10)
     .skip
     (.exit 0)))
   (.block 1
    (.reg [⟨some 11, none, [.t 3], .v (.faddr 4)⟩,
      ⟨some 12, none, [.t 11], .loadL 3 4 1 false⟩,
      ⟨some 13, none, [.t 0], .v (.mv)⟩,
      ⟨some 14, none, [.t 13], .callI 131 []⟩,
      ⟨some 15, none, [.t 14], .v (.bslice 5)⟩,
      ⟨some 16, none, [.t 12, .t 15], .append 5 64⟩,
      ⟨some 17, none, [.t 3], .v (.faddr 4)⟩,
      ⟨none, none, [.t 17, .t 16], .storeL 3 4 1⟩] [0, 2, 3])))
def g133L0 : ACode := .loop [0, 2, 3] g133B0
theorem g133L0_eq {AP : Nat → Option AFunc} {st : St} : cl AP g133L0 st = after (cl AP g133L0) (cl AP g133B0 (norm (restrict [0, 2, 3] st))) := cl_loop
def g133 : AFunc := ⟨1, 27, [.c 2 5 true],
  (.seq
   (.reg [⟨some 2, none, [], .alloc 2 [.int .i64 0, .str [], .int .i64 0, .int .i64 0, .lst []]⟩] [0, 2])
   (.seq
    (.reg [⟨some 3, none, [], .alloc 3 [.int .i64 0, .str [], .int .i64 0, .int .i64 0, .lst []]⟩] [0, 2, 3])
    (.seq
     (.seq
      (.reg [⟨some 4, none, [.t 0], .v (.mv)⟩,
        ⟨some 5, none, [.t 4, .c (.pv (.int .i64 2))], .callI 129 []⟩] [0, 2, 3, 5])
      (.cond (.t 5)
       (.seq
        (.reg [⟨some 6, none, [.t 0], .v (.mv)⟩,
          ⟨some 7, none, [.t 6, .c (.pv (.int .i64 2))], .callI 128 []⟩,
          ⟨some 8, none, [.t 7, .c (.clp [])], .callI 62 []⟩,
          ⟨none, none, [.t 3, .t 8], .storeL 3 0 5⟩] [0, 2, 3])
        (.block 0
         g133L0))
       (.reg [⟨some 18, none, [.t 0], .v (.mv)⟩,
         ⟨some 19, none, [.t 18], .callI 131 []⟩,
         ⟨none, none, [.t 3, .t 19], .storeL 3 0 5⟩] [0, 2, 3])))
     (.seq
      (.seq
       (.reg [⟨some 20, none, [.t 0], .v (.mv)⟩,
         ⟨some 21, none, [.t 20, .c (.pv (.str [45, 62]))], .callI 132 []⟩] [0, 2, 3, 21])
       (.cond (.t 21)
        (.seq
         (.reg [⟨some 22, none, [.t 3], .loadL 3 0 5 true⟩,
           ⟨some 23, none, [.t 0], .v (.mv)⟩,
           ⟨some 24, none, [.t 23], .callI 133 []⟩,
           ⟨some 25, none, [.t 22, .t 24], .callP 69⟩,
           ⟨none, none, [.t 2, .t 25], .storeL 2 0 5⟩] [2])
         .ret)
        .skip))
      (.seq
       (.reg [⟨some 26, none, [.t 3], .loadL 3 0 5 true⟩,
         ⟨none, none, [.t 2, .t 26], .storeL 2 0 5⟩] [2])
       .ret))))), none, false⟩

/- typedholes/typedholesref6.Read -/
def g134B0 : ACode :=
  (.seq
   (.seq
    (.reg [⟨some 69, none, [.t 0], .v (.mv)⟩,
      ⟨some 70, none, [.t 69], .v (.nilchk)⟩,
      ⟨some 71, none, [.t 70], .v (.faddr 2)⟩,
      ⟨some 72, none, [.t 71], .loadS 1 false⟩,
      ⟨some 73, none, [.t 72], .v (.un .not)⟩,
      ⟨some 74, none, [.t 73], .v (.mv)⟩,
      ⟨some 75, some (74, true), [.t 0], .v (.mv)⟩,
      ⟨some 76, some (74, true), [.t 75], .v (.nilchk)⟩,
      ⟨some 77, some (74, true), [.t 76], .v (.faddr 1)⟩,
      ⟨some 78, some (74, true), [.t 77], .loadS 1 false⟩,
      ⟨some 79, some (74, true), [.t 0], .v (.mv)⟩,
      ⟨some 80, some (74, true), [.t 79], .v (.nilchk)⟩,
      ⟨some 81, some (74, true), [.t 80], .v (.faddr 0)⟩,
      ⟨some 82, some (74, true), [.t 81], .loadS 1 false⟩,
      ⟨some 83, some (74, true), [.t 82], .v (.len)⟩,
      ⟨some 84, some (74, true), [.t 78, .t 83], .v (.bin .lss)⟩,
      ⟨some 85, none, [.t 74, .t 84, .c (.pv (.bool false))], .v (.pick)⟩,
      ⟨some 86, none, [.t 85], .v (.mv)⟩,
      ⟨some 87, some (86, true), [.t 0], .v (.mv)⟩,
      ⟨some 88, some (86, true), [.t 87], .v (.nilchk)⟩,
      ⟨some 89, some (86, true), [.t 88], .v (.faddr 0)⟩,
      ⟨some 90, some (86, true), [.t 89], .loadS 1 false⟩,
      ⟨some 91, some (86, true), [.t 0], .v (.mv)⟩,
      ⟨some 92, some (86, true), [.t 91], .v (.nilchk)⟩,
      ⟨some 93, some (86, true), [.t 92], .v (.faddr 1)⟩,
      ⟨some 94, some (86, true), [.t 93], .loadS 1 false⟩,
      ⟨some 95, some (86, true), [.t 90, .t 94], .v (.iaddr 3)⟩,
      ⟨some 96, some (86, true), [.t 95], .v (.loadE 3 true)⟩,
      ⟨some 97, some (86, true), [.t 96], .callP 142⟩,
      ⟨some 98, none, [.t 86, .t 97, .c (.pv (.bool false))], .v (.pick)⟩] [0, 2, 8, 98])
    (.cond (.t 98)
     .skip
     (.exit 1)))
   (.block 2
    (.seq
     (.reg [⟨some 99, none, [.t 0], .v (.mv)⟩,
       ⟨some 100, none, [.t 99], .callI 141 []⟩,
       ⟨some 9, none, [], .alloc 9 [.int .i64 0, .int .i64 0, .str [], .int .i64 0, .lst [], .lst [], .int .i64 0, .str [], .int .i64 0, .int .i64 0, .lst []]⟩,
       ⟨none, none, [.t 9, .t 100], .storeL 9 0 11⟩] [0, 2, 8, 9])
     (.reg [⟨some 101, none, [.t 8], .v (.faddr 1)⟩,
       ⟨some 102, none, [.t 101], .loadL 8 1 1 false⟩,
       ⟨some 103, none, [.t 8], .loadL 8 0 11 true⟩,
       ⟨some 104, none, [.t 9], .loadL 9 0 11 true⟩,
       ⟨some 105, none, [.t 103, .t 104], .v (.bslice 11)⟩,
       ⟨some 106, none, [.c (.pv (.int .i64 5)), .t 102, .t 105], .v (.build [.int .i64 0, .int .i64 0, .str [], .int .i64 0, .lst [], .lst [], .int .i64 0, .str [], .int .i64 0, .int .i64 0, .lst []] [(0, 1), (1, 1), (4, 1)])⟩,
       ⟨none, none, [.t 8, .t 106], .storeL 8 0 11⟩] [0, 2, 8]))))
def g134L0 : ACode := .loop [0, 2, 8] g134B0
theorem g134L0_eq {AP : Nat → Option AFunc} {st : St} : cl AP g134L0 st = after (cl AP g134L0) (cl AP g134B0 (norm (restrict [0, 2, 8] st))) := cl_loop
def g134 : AFunc := ⟨1, 108, [.c 2 11 true],
  (.seq
   (.reg [⟨some 2, none, [], .alloc 2 [.int .i64 0, .int .i64 0, .str [], .int .i64 0, .lst [], .lst [], .int .i64 0, .str [], .int .i64 0, .int .i64 0, .lst []]⟩] [0, 2])
   (.seq
    (.reg [⟨some 10, none, [.t 0], .v (.mv)⟩,
      ⟨some 11, none, [.t 10], .callI 126 []⟩,
      ⟨some 3, none, [.t 11], .v (.mv)⟩] [0, 2, 3])
    (.seq
     (.block 0
      (.seq
       (.reg [⟨some 13, none, [.t 0], .v (.mv)⟩,
         ⟨some 14, none, [.t 13, .c (.pv (.str [92]))], .callI 132 []⟩,
         ⟨some 12, none, [.t 14], .v (.mv)⟩] [0, 2, 3, 12])
       (.cond (.t 12)
        (.seq
         (.reg [⟨some 15, none, [.t 0], .v (.mv)⟩,
           ⟨some 16, none, [.t 15, .c (.pv (.int .i64 1))], .callI 128 []⟩,
           ⟨some 4, none, [.t 16], .v (.mv)⟩] [0, 2, 3, 4])
         (.seq
          (.reg [⟨some 17, none, [.t 0], .v (.mv)⟩,
            ⟨some 18, none, [.t 17, .c (.pv (.str [46]))], .callI 127 []⟩] [0, 2, 3, 4])
          (.seq
           (.seq
            (.reg [⟨some 19, none, [.t 0], .v (.mv)⟩,
              ⟨some 20, none, [.t 19], .v (.nilchk)⟩,
              ⟨some 21, none, [.t 20], .v (.faddr 2)⟩,
              ⟨some 22, none, [.t 21], .loadS 1 false⟩] [0, 2, 3, 4, 22])
            (.cond (.t 22)
             (.seq
              (.reg [⟨some 23, none, [], .v (.build [.int .i64 0, .int .i64 0, .str [], .int .i64 0, .lst [], .lst [], .int .i64 0, .str [], .int .i64 0, .int .i64 0, .lst []] [])⟩,
                ⟨none, none, [.t 2, .t 23], .storeL 2 0 11⟩] [2])
              .ret)
             .skip))
           (.seq
            (.reg [⟨some 24, none, [.t 3], .v (.mv)⟩,
              ⟨some 25, none, [.t 4], .v (.mv)⟩,
              ⟨some 26, none, [.t 0], .v (.mv)⟩,
              ⟨some 27, none, [.t 26], .callI 134 []⟩,
              ⟨some 28, none, [.t 27], .v (.bslice 11)⟩,
              ⟨some 29, none, [.c (.pv (.int .i64 4)), .t 24, .t 25, .t 28], .v (.build [.int .i64 0, .int .i64 0, .str [], .int .i64 0, .lst [], .lst [], .int .i64 0, .str [], .int .i64 0, .int .i64 0, .lst []] [(0, 1), (1, 1), (2, 1), (4, 1)])⟩,
              ⟨none, none, [.t 2, .t 29], .storeL 2 0 11⟩] [2])
            .ret))))
        (.seq
         (.reg [⟨some 31, none, [.t 0], .v (.mv)⟩,
           ⟨some 32, none, [.t 31, .c (.pv (.str [108, 101, 116]))], .callI 132 []⟩,
           ⟨some 30, none, [.t 32], .v (.mv)⟩] [0, 2, 3, 30])
         (.cond (.t 30)
          (.seq
           (.reg [⟨some 5, none, [.c (.pv (.int .i64 6))], .v (.mv)⟩] [0, 2, 3, 5])
           (.seq
            (.seq
             (.reg [⟨some 33, none, [.t 0], .v (.mv)⟩,
               ⟨some 34, none, [.t 33, .c (.pv (.str [114, 101, 99]))], .callI 132 []⟩] [0, 2, 3, 5, 34])
             (.cond (.t 34)
              (.reg [⟨some 5, none, [.c (.pv (.int .i64 7))], .v (.mv)⟩] [0, 2, 3, 5])
              .skip))
            (.seq
             (.reg [⟨some 35, none, [.t 0], .v (.mv)⟩,
               ⟨some 36, none, [.t 35, .c (.pv (.int .i64 1))], .callI 128 []⟩,
               ⟨some 6, none, [.t 36], .v (.mv)⟩] [0, 2, 3, 5, 6])
             (.seq
              (.reg [⟨some 37, none, [.t 0], .v (.mv)⟩,
                ⟨some 38, none, [.t 37, .c (.pv (.str [61]))], .callI 127 []⟩] [0, 2, 3, 5, 6])
              (.seq
               (.seq
                (.reg [⟨some 39, none, [.t 0], .v (.mv)⟩,
                  ⟨some 40, none, [.t 39], .v (.nilchk)⟩,
                  ⟨some 41, none, [.t 40], .v (.faddr 2)⟩,
                  ⟨some 42, none, [.t 41], .loadS 1 false⟩] [0, 2, 3, 5, 6, 42])
                (.cond (.t 42)
                 (.seq
                  (.reg [⟨some 43, none, [], .v (.build [.int .i64 0, .int .i64 0, .str [], .int .i64 0, .lst [], .lst [], .int .i64 0, .str [], .int .i64 0, .int .i64 0, .lst []] [])⟩,
                    ⟨none, none, [.t 2, .t 43], .storeL 2 0 11⟩] [2])
                  .ret)
                 .skip))
               (.seq
                (.reg [⟨some 44, none, [.t 0], .v (.mv)⟩,
                  ⟨some 45, none, [.t 44], .callI 134 []⟩,
                  ⟨some 7, none, [], .alloc 7 [.int .i64 0, .int .i64 0, .str [], .int .i64 0, .lst [], .lst [], .int .i64 0, .str [], .int .i64 0, .int .i64 0, .lst []]⟩,
                  ⟨none, none, [.t 7, .t 45], .storeL 7 0 11⟩] [0, 2, 3, 5, 6, 7])
                (.seq
                 (.reg [⟨some 46, none, [.t 0], .v (.mv)⟩,
                   ⟨some 47, none, [.t 46, .c (.pv (.str [105, 110]))], .callI 127 []⟩] [0, 2, 3, 5, 6, 7])
                 (.seq
                  (.seq
                   (.reg [⟨some 48, none, [.t 0], .v (.mv)⟩,
                     ⟨some 49, none, [.t 48], .v (.nilchk)⟩,
                     ⟨some 50, none, [.t 49], .v (.faddr 2)⟩,
                     ⟨some 51, none, [.t 50], .loadS 1 false⟩] [0, 2, 3, 5, 6, 7, 51])
                   (.cond (.t 51)
                    (.seq
                     (.reg [⟨some 52, none, [], .v (.build [.int .i64 0, .int .i64 0, .str [], .int .i64 0, .lst [], .lst [], .int .i64 0, .str [], .int .i64 0, .int .i64 0, .lst []] [])⟩,
                       ⟨none, none, [.t 2, .t 52], .storeL 2 0 11⟩] [2])
                     .ret)
                    .skip))
                  (.seq
                   (.reg [⟨some 53, none, [.t 5], .v (.mv)⟩,
                     ⟨some 54, none, [.t 3], .v (.mv)⟩,
                     ⟨some 55, none, [.t 6], .v (.mv)⟩,
                     ⟨some 56, none, [.t 7], .loadL 7 0 11 true⟩,
                     ⟨some 57, none, [.t 0], .v (.mv)⟩,
                     ⟨some 58, none, [.t 57], .callI 134 []⟩,
                     ⟨some 59, none, [.t 56, .t 58], .v (.bslice 11)⟩,
                     ⟨some 60, none, [.t 53, .t 54, .t 55, .t 59], .v (.build [.int .i64 0, .int .i64 0, .str [], .int .i64 0, .lst [], .lst [], .int .i64 0, .str [], .int .i64 0, .int .i64 0, .lst []] [(0, 1), (1, 1), (2, 1), (4, 1)])⟩,
                     ⟨none, none, [.t 2, .t 60], .storeL 2 0 11⟩] [2])
                   .ret)))))))))
          (.seq
           (.reg [⟨some 62, none, [.t 0], .v (.mv)⟩,
             ⟨some 63, none, [.t 62, .c (.pv (.str [99, 97, 115, 101]))], .callI 132 []⟩,
             ⟨some 61, none, [.t 63], .v (.mv)⟩] [0, 2, 3, 61])
           (.cond (.t 61)
            (.seq
             (.reg [⟨some 64, none, [.t 0], .v (.mv)⟩,
               ⟨some 65, none, [.t 3], .v (.mv)⟩,
               ⟨some 66, none, [.t 64, .t 65], .callI 140 []⟩,
               ⟨none, none, [.t 2, .t 66], .storeL 2 0 11⟩] [2])
             .ret)
            .skip)))))))
     (.seq
      (.reg [⟨some 67, none, [.t 0], .v (.mv)⟩,
        ⟨some 68, none, [.t 67], .callI 141 []⟩,
        ⟨some 8, none, [], .alloc 8 [.int .i64 0, .int .i64 0, .str [], .int .i64 0, .lst [], .lst [], .int .i64 0, .str [], .int .i64 0, .int .i64 0, .lst []]⟩,
        ⟨none, none, [.t 8, .t 68], .storeL 8 0 11⟩] [0, 2, 8])
      (.seq
       (.block 1
        g134L0)
       (.seq
        (.reg [⟨some 107, none, [.t 8], .loadL 8 0 11 true⟩,
          ⟨none, none, [.t 2, .t 107], .storeL 2 0 11⟩] [2])
        .ret)))))), none, false⟩

/- typedholes/typedholesref7.deepExpr -/
def g135 : AFunc := ⟨1, 10, [.t 2],
  (.seq
   (.reg [⟨some 1, none, [.t 0], .box 1 11⟩,
     ⟨some 2, none, [.c (.pv (.bool false))], .v (.mv)⟩] [1])
   (.seq
    (.reg [⟨some 3, none, [.t 1], .loadL 1 0 11 true⟩,
      ⟨some 4, none, [.t 3], .callP 143⟩,
      ⟨some 5, none, [.t 4, .c (.pv (.int .i64 40))], .v (.bin .gtr)⟩,
      ⟨some 6, none, [.t 5], .v (.mv)⟩,
      ⟨some 7, some (6, false), [.t 1], .loadL 1 0 11 true⟩,
      ⟨some 8, some (6, false), [.t 7], .callP 144⟩,
      ⟨some 9, none, [.t 6, .c (.pv (.bool true)), .t 8], .v (.pick)⟩,
      ⟨some 2, none, [.t 9], .v (.mv)⟩] [2])
    .ret)), none, false⟩

/- typedholes/typedholesref7.wide -/
def g136B0 : ACode :=
  (.seq
   (.seq
    (.reg [⟨some 9, none, [.t 4], .v (.mv)⟩,
      ⟨some 10, none, [.t 1], .v (.faddr 5)⟩,
      ⟨some 11, none, [.t 10], .loadL 1 5 1 false⟩,
      ⟨some 12, none, [.t 11], .v (.len)⟩,
      ⟨some 13, none, [.t 9, .t 12], .v (.bin .lss)⟩] [1, 4, 13])
    (.cond (.t 13)
     .skip
     (.exit 0)))
   (.seq
    (.block 1
     (.seq
      (.reg [⟨some 16, none, [.t 1], .v (.faddr 5)⟩,
        ⟨some 17, none, [.t 16], .loadL 1 5 1 false⟩,
        ⟨some 18, none, [.t 4], .v (.mv)⟩,
        ⟨some 19, none, [.t 17, .t 18], .v (.iaddr 14)⟩,
        ⟨some 20, none, [.t 19], .v (.faddr 2)⟩,
        ⟨some 21, none, [.t 20], .v (.loadE 1 false)⟩,
        ⟨some 22, none, [.t 21], .v (.len)⟩,
        ⟨some 23, none, [.t 22, .c (.pv (.int .i64 4))], .v (.bin .gtr)⟩] [1, 4, 23])
      (.cond (.t 23)
       (.seq
        (.reg [⟨some 24, none, [.t 1], .v (.faddr 5)⟩,
          ⟨some 25, none, [.t 24], .loadL 1 5 1 false⟩,
          ⟨some 26, none, [.t 4], .v (.mv)⟩,
          ⟨some 27, none, [.t 25, .t 26], .v (.iaddr 14)⟩,
          ⟨some 28, none, [.t 27], .v (.faddr 0)⟩,
          ⟨some 29, none, [.t 28], .v (.loadE 1 false)⟩,
          ⟨some 2, none, [.t 29], .v (.mv)⟩,
          ⟨some 3, none, [.c (.pv (.bool true))], .v (.mv)⟩] [2, 3])
        .ret)
       .skip)))
    (.reg [⟨some 14, none, [.t 4], .v (.mv)⟩,
      ⟨some 15, none, [.t 14, .c (.pv (.int .i64 1))], .v (.bin .add)⟩,
      ⟨some 4, none, [.t 15], .v (.mv)⟩] [1, 4])))
def g136L0 : ACode := .loop [1, 4] g136B0
theorem g136L0_eq {AP : Nat → Option AFunc} {st : St} : cl AP g136L0 st = after (cl AP g136L0) (cl AP g136B0 (norm (restrict [1, 4] st))) := cl_loop
def g136B1 : ACode :=
  (.seq
   (.seq
    (.reg [⟨some 32, none, [.t 6], .v (.mv)⟩,
      ⟨some 33, none, [.t 5], .v (.mv)⟩,
      ⟨some 34, none, [.t 33], .v (.len)⟩,
      ⟨some 35, none, [.t 32, .t 34], .v (.bin .lss)⟩] [5, 6, 35])
    (.cond (.t 35)
     .skip
     (.exit 2)))
   (.seq
    (.block 3
     (.seq
      (.reg [⟨some 39, none, [.t 5], .v (.mv)⟩,
        ⟨some 40, none, [.t 6], .v (.mv)⟩,
        ⟨some 41, none, [.t 39, .t 40], .v (.iaddr 11)⟩,
        ⟨some 42, none, [.t 41], .v (.loadE 11 true)⟩,
        ⟨some 43, none, [.t 42], .callP 136⟩,
        ⟨some 38, none, [.t 43], .v (.mv)⟩,
        ⟨some 44, none, [.t 38], .v (.ext 0)⟩,
        ⟨some 45, none, [.t 38], .v (.ext 1)⟩,
        ⟨some 7, none, [.t 44], .v (.mv)⟩,
        ⟨some 8, none, [.t 45], .v (.mv)⟩] [5, 6, 7, 8])
      (.seq
       (.reg [⟨some 46, none, [.t 8], .v (.mv)⟩] [5, 6, 7, 46])
       (.cond (.t 46)
        (.seq
         (.reg [⟨some 47, none, [.t 7], .v (.mv)⟩,
           ⟨some 2, none, [.t 47], .v (.mv)⟩,
           ⟨some 3, none, [.c (.pv (.bool true))], .v (.mv)⟩] [2, 3])
         .ret)
        .skip))))
    (.reg [⟨some 36, none, [.t 6], .v (.mv)⟩,
      ⟨some 37, none, [.t 36, .c (.pv (.int .i64 1))], .v (.bin .add)⟩,
      ⟨some 6, none, [.t 37], .v (.mv)⟩] [5, 6])))
def g136L1 : ACode := .loop [5, 6] g136B1
theorem g136L1_eq {AP : Nat → Option AFunc} {st : St} : cl AP g136L1 st = after (cl AP g136L1) (cl AP g136B1 (norm (restrict [5, 6] st))) := cl_loop
def g136 : AFunc := ⟨1, 48, [.t 2, .t 3],
  (.seq
   (.reg [⟨some 1, none, [.t 0], .box 1 11⟩,
     ⟨some 2, none, [.c (.pv (.int .i64 0))], .v (.mv)⟩,
     ⟨some 3, none, [.c (.pv (.bool false))], .v (.mv)⟩] [1])
   (.seq
    (.seq
     (.reg [⟨some 4, none, [.c (.pv (.int .i64 0))], .v (.mv)⟩] [1, 4])
     (.block 0
      g136L0))
    (.seq
     (.reg [⟨some 30, none, [.t 1], .loadL 1 0 11 true⟩,
       ⟨some 31, none, [.t 30], .callP 145⟩,
       ⟨some 5, none, [.t 31], .v (.mv)⟩] [5])
     (.seq
      (.seq
       (.reg [⟨some 6, none, [.c (.pv (.int .i64 0))], .v (.mv)⟩] [5, 6])
       (.block 2
        g136L1))
      (.seq
       (.reg [⟨some 2, none, [.c (.pv (.int .i64 0))], .v (.mv)⟩,
         ⟨some 3, none, [.c (.pv (.bool false))], .v (.mv)⟩] [2, 3])
       .ret))))), none, false⟩

/- typedholes/typedholesref2.Integer -/
def g137B0 : ACode :=
  (.seq
   (.seq
    (.reg [⟨some 21, none, [.t 3], .v (.mv)⟩,
      ⟨some 22, none, [.t 0], .v (.mv)⟩,
      ⟨some 23, none, [.t 22], .v (.lenS)⟩,
      ⟨some 24, none, [.t 21, .t 23], .v (.bin .lss)⟩] [0, 3, 24])
    (.cond (.t 24)
     .skip
     (.exit 0)))
   (.seq
    (.block 1
     (.seq
      (.reg [⟨some 27, none, [.t 0], .v (.mv)⟩,
        ⟨some 28, none, [.t 3], .v (.mv)⟩,
        ⟨some 29, none, [.t 27, .t 28], .v (.index)⟩,
        ⟨some 30, none, [.t 29], .callP 124⟩,
        ⟨some 31, none, [.t 30], .v (.un .not)⟩] [0, 3, 31])
      (.cond (.t 31)
       (.seq
        (.reg [⟨some 2, none, [.c (.pv (.bool false))], .v (.mv)⟩] [2])
        .ret)
       .skip)))
    (.reg [⟨some 25, none, [.t 3], .v (.mv)⟩,
      ⟨some 26, none, [.t 25, .c (.pv (.int .i64 1))], .v (.bin .add)⟩,
      ⟨some 3, none, [.t 26], .v (.mv)⟩] [0, 3])))
def g137L0 : ACode := .loop [0, 3] g137B0
theorem g137L0_eq {AP : Nat → Option AFunc} {st : St} : cl AP g137L0 st = after (cl AP g137L0) (cl AP g137B0 (norm (restrict [0, 3] st))) := cl_loop
def g137 : AFunc := ⟨1, 32, [.t 2],
  (.seq
   (.reg [⟨some 2, none, [.c (.pv (.bool false))], .v (.mv)⟩] [0])
   (.seq
    (.seq
     (.reg [⟨some 4, none, [.t 0], .v (.mv)⟩,
       ⟨some 5, none, [.t 4, .c (.pv (.str []))], .v (.bin .eql)⟩,
       ⟨some 6, none, [.t 5], .v (.mv)⟩,
       ⟨some 7, some (6, false), [.t 0], .v (.mv)⟩,
       ⟨some 8, some (6, false), [.t 7], .v (.lenS)⟩,
       ⟨some 9, some (6, false), [.t 8, .c (.pv (.int .i64 9))], .v (.bin .gtr)⟩,
       ⟨some 10, none, [.t 6, .c (.pv (.bool true)), .t 9], .v (.pick)⟩,
       ⟨some 11, none, [.t 10], .v (.mv)⟩,
       ⟨some 12, some (11, false), [.t 0], .v (.mv)⟩,
       ⟨some 13, some (11, false), [.t 12, .c (.pv (.int .i64 0))], .v (.index)⟩,
       ⟨some 14, some (11, false), [.t 13, .c (.pv (.int .u8 48))], .v (.bin .eql)⟩,
       ⟨some 15, some (11, false), [.t 14], .v (.mv)⟩,
       ⟨some 16, some (15, true), [.t 0], .v (.mv)⟩,
       ⟨some 17, some (15, true), [.t 16], .v (.lenS)⟩,
       ⟨some 18, some (15, true), [.t 17, .c (.pv (.int .i64 1))], .v (.bin .gtr)⟩,
       ⟨some 19, some (11, false), [.t 15, .t 18, .c (.pv (.bool false))], .v (.pick)⟩,
       ⟨some 20, none, [.t 11, .c (.pv (.bool true)), .t 19], .v (.pick)⟩] [0, 20])
     (.cond (.t 20)
      (.seq
       (.reg [⟨some 2, none, [.c (.pv (.bool false))], .v (.mv)⟩] [2])
       .ret)
      .skip))
    (.seq
     (.seq
      (.reg [⟨some 3, none, [.c (.pv (.int .i64 0))], .v (.mv)⟩] [0, 3])
      (.block 0
       g137L0))
     (.seq
      (.reg [⟨some 2, none, [.c (.pv (.bool true))], .v (.mv)⟩] [2])
      .ret)))), none, false⟩

/- typedholes/typedholesref2.mark -/
def g138B0 : ACode :=
  (.seq
   (.seq
    (.reg [⟨some 6, none, [.t 3], .v (.mv)⟩,
      ⟨some 7, none, [.t 6, .c (.pv (.int .i64 11))], .v (.bin .lss)⟩] [0, 3, 7])
    (.cond (.t 7)
     .skip
     (.exit 0)))
   (.seq
    (.block 1
     (.seq
      (.reg [⟨some 10, none, [.t 0], .v (.mv)⟩,
        ⟨some 11, none, [.t 3], .v (.mv)⟩,
        ⟨some 12, none, [.t 3], .v (.mv)⟩,
        ⟨some 13, none, [.t 12, .c (.pv (.int .i64 1))], .v (.bin .add)⟩,
        ⟨some 14, none, [.c (.pv (.str [92, 46, 61, 59, 58, 124, 40, 41, 123, 125, 63])), .t 11, .t 13], .v (.slice true 0 true true false)⟩,
        ⟨some 15, none, [.t 10, .t 14], .v (.bin .eql)⟩] [0, 3, 15])
      (.cond (.t 15)
       (.seq
        (.reg [⟨some 2, none, [.c (.pv (.bool true))], .v (.mv)⟩] [2])
        .ret)
       .skip)))
    (.reg [⟨some 8, none, [.t 3], .v (.mv)⟩,
      ⟨some 9, none, [.t 8, .c (.pv (.int .i64 1))], .v (.bin .add)⟩,
      ⟨some 3, none, [.t 9], .v (.mv)⟩] [0, 3])))
def g138L0 : ACode := .loop [0, 3] g138B0
theorem g138L0_eq {AP : Nat → Option AFunc} {st : St} : cl AP g138L0 st = after (cl AP g138L0) (cl AP g138B0 (norm (restrict [0, 3] st))) := cl_loop
def g138 : AFunc := ⟨1, 16, [.t 2],
  (.seq
   (.reg [⟨some 2, none, [.c (.pv (.bool false))], .v (.mv)⟩] [0])
   (.seq
    (.seq
     (.reg [⟨some 4, none, [.t 0], .v (.mv)⟩,
       ⟨some 5, none, [.t 4, .c (.pv (.str [45, 62]))], .v (.bin .eql)⟩] [0, 5])
     (.cond (.t 5)
      (.seq
       (.reg [⟨some 2, none, [.c (.pv (.bool true))], .v (.mv)⟩] [2])
       .ret)
      .skip))
    (.seq
     (.seq
      (.reg [⟨some 3, none, [.c (.pv (.int .i64 0))], .v (.mv)⟩] [0, 3])
      (.block 0
       g138L0))
     (.seq
      (.reg [⟨some 2, none, [.c (.pv (.bool false))], .v (.mv)⟩] [2])
      .ret)))), none, false⟩

/- (*typedholes/typedholesref5.Reader).Fail -/
def g139 : AFunc := ⟨1, 63, [],
  (.seq
   (.seq
    (.reg [⟨some 3, none, [.t 0], .v (.mv)⟩,
      ⟨some 4, none, [.t 3], .v (.nilchk)⟩,
      ⟨some 5, none, [.t 4], .v (.faddr 2)⟩,
      ⟨some 6, none, [.t 5], .loadS 1 false⟩] [0, 6])
    (.cond (.t 6)
     .ret
     .skip))
   (.seq
    (.reg [⟨some 7, none, [.t 0], .v (.mv)⟩,
      ⟨some 8, none, [.t 7], .v (.nilchk)⟩,
      ⟨some 9, none, [.t 8], .v (.faddr 2)⟩,
      ⟨none, none, [.t 9, .c (.pv (.bool true))], .storeS 1⟩] [0])
    (.block 0
     (.seq
      (.reg [⟨some 11, none, [.t 0], .v (.mv)⟩,
        ⟨some 12, none, [.t 11], .v (.nilchk)⟩,
        ⟨some 13, none, [.t 12], .v (.faddr 1)⟩,
        ⟨some 14, none, [.t 13], .loadS 1 false⟩,
        ⟨some 15, none, [.t 0], .v (.mv)⟩,
        ⟨some 16, none, [.t 15], .v (.nilchk)⟩,
        ⟨some 17, none, [.t 16], .v (.faddr 0)⟩,
        ⟨some 18, none, [.t 17], .loadS 1 false⟩,
        ⟨some 19, none, [.t 18], .v (.len)⟩,
        ⟨some 20, none, [.t 14, .t 19], .v (.bin .lss)⟩,
        ⟨some 10, none, [.t 20], .v (.mv)⟩] [0, 10])
      (.cond (.t 10)
       (.reg [⟨some 21, none, [.t 0], .v (.mv)⟩,
         ⟨some 22, none, [.t 0], .v (.mv)⟩,
         ⟨some 23, none, [.t 22], .v (.nilchk)⟩,
         ⟨some 24, none, [.t 23], .v (.faddr 0)⟩,
         ⟨some 25, none, [.t 24], .loadS 1 false⟩,
         ⟨some 26, none, [.t 0], .v (.mv)⟩,
         ⟨some 27, none, [.t 26], .v (.nilchk)⟩,
         ⟨some 28, none, [.t 27], .v (.faddr 1)⟩,
         ⟨some 29, none, [.t 28], .loadS 1 false⟩,
         ⟨some 30, none, [.t 25, .t 29], .v (.iaddr 3)⟩,
         ⟨some 31, none, [.t 30], .v (.faddr 2)⟩,
         ⟨some 32, none, [.t 31], .v (.loadE 1 false)⟩,
         ⟨some 33, none, [.t 21], .v (.nilchk)⟩,
         ⟨some 34, none, [.t 33], .v (.faddr 3)⟩,
         ⟨none, none, [.t 34, .t 32], .storeS 1⟩] [])
       (.seq
        (.reg [⟨some 36, none, [.t 0], .v (.mv)⟩,
          ⟨some 37, none, [.t 36], .v (.nilchk)⟩,
          ⟨some 38, none, [.t 37], .v (.faddr 0)⟩,
          ⟨some 39, none, [.t 38], .loadS 1 false⟩,
          ⟨some 40, none, [.t 39], .v (.len)⟩,
          ⟨some 41, none, [.t 40, .c (.pv (.int .i64 0))], .v (.bin .gtr)⟩,
          ⟨some 35, none, [.t 41], .v (.mv)⟩] [0, 35])
        (.cond (.t 35)
         (.seq
          (.reg [⟨some 42, none, [.t 0], .v (.mv)⟩,
            ⟨some 43, none, [.t 42], .v (.nilchk)⟩,
            ⟨some 44, none, [.t 43], .v (.faddr 0)⟩,
            ⟨some 45, none, [.t 44], .loadS 1 false⟩,
            ⟨some 46, none, [.t 0], .v (.mv)⟩,
            ⟨some 47, none, [.t 46], .v (.nilchk)⟩,
            ⟨some 48, none, [.t 47], .v (.faddr 0)⟩,
            ⟨some 49, none, [.t 48], .loadS 1 false⟩,
            ⟨some 50, none, [.t 49], .v (.len)⟩,
            ⟨some 51, none, [.t 50, .c (.pv (.int .i64 1))], .v (.bin .sub)⟩,
            ⟨some 52, none, [.t 45, .t 51], .v (.iaddr 3)⟩,
            ⟨some 53, none, [.t 52], .v (.loadE 3 true)⟩,
            ⟨some 2, none, [], .alloc 2 [.int .i64 0, .str [], .int .i64 0]⟩,
            ⟨none, none, [.t 2, .t 53], .storeL 2 0 3⟩] [0, 2])
          (.reg [⟨some 54, none, [.t 0], .v (.mv)⟩,
            ⟨some 55, none, [.t 2], .v (.faddr 2)⟩,
            ⟨some 56, none, [.t 55], .loadL 2 2 1 false⟩,
            ⟨some 57, none, [.t 2], .v (.faddr 1)⟩,
            ⟨some 58, none, [.t 57], .loadL 2 1 1 false⟩,
            ⟨some 59, none, [.t 58], .v (.lenS)⟩,
            ⟨some 60, none, [.t 56, .t 59], .v (.bin .add)⟩,
            ⟨some 61, none, [.t 54], .v (.nilchk)⟩,
            ⟨some 62, none, [.t 61], .v (.faddr 3)⟩,
            ⟨none, none, [.t 62, .t 60], .storeS 1⟩] []))
         .skip))))))), none, false⟩

/- typedholes/typedholesref6.cases -/
def g140B1 : ACode :=
  (.seq
   (.seq
    (.reg [⟨some 19, none, [.t 0], .v (.mv)⟩,
      ⟨some 20, none, [.t 19, .c (.pv (.int .i64 1))], .callI 129 []⟩] [0, 4, 5, 6, 20])
    (.cond (.t 20)
     .skip
     (.exit 2)))
   (.block 3
    (.reg [⟨some 21, none, [.t 6], .v (.faddr 2)⟩,
      ⟨some 22, none, [.t 21], .loadL 6 2 1 false⟩,
      ⟨some 23, none, [.t 0], .v (.mv)⟩,
      ⟨some 24, none, [.t 23, .c (.pv (.int .i64 1))], .callI 128 []⟩,
      ⟨some 25, none, [.t 24], .v (.bslice 1)⟩,
      ⟨some 26, none, [.t 22, .t 25], .append 1 16⟩,
      ⟨some 27, none, [.t 6], .v (.faddr 2)⟩,
      ⟨none, none, [.t 27, .t 26], .storeL 6 2 1⟩] [0, 4, 5, 6])))
def g140L1 : ACode := .loop [0, 4, 5, 6] g140B1
theorem g140L1_eq {AP : Nat → Option AFunc} {st : St} : cl AP g140L1 st = after (cl AP g140L1) (cl AP g140B1 (norm (restrict [0, 4, 5, 6] st))) := cl_loop
def g140B0 : ACode :=
  (.block 1
   (.seq
    (.reg [⟨some 14, none, [.t 0], .v (.mv)⟩,
      ⟨some 15, none, [.t 14], .callI 126 []⟩,
      ⟨some 16, none, [.t 0], .v (.mv)⟩,
      ⟨some 17, none, [.t 16, .c (.pv (.int .i64 2))], .callI 128 []⟩,
      ⟨some 18, none, [.t 15, .t 17], .v (.build [.int .i64 0, .str [], .lst [], .int .i64 0, .int .i64 0, .str [], .int .i64 0, .lst [], .lst [], .int .i64 0, .str [], .int .i64 0, .int .i64 0, .lst []] [(0, 1), (1, 1)])⟩,
      ⟨some 6, none, [], .alloc 6 [.int .i64 0, .str [], .lst [], .int .i64 0, .int .i64 0, .str [], .int .i64 0, .lst [], .lst [], .int .i64 0, .str [], .int .i64 0, .int .i64 0, .lst []]⟩,
      ⟨none, none, [.t 6, .t 18], .storeL 6 0 14⟩] [0, 4, 5, 6])
    (.seq
     (.block 2
      g140L1)
     (.seq
      (.reg [⟨some 28, none, [.t 0], .v (.mv)⟩,
        ⟨some 29, none, [.t 28, .c (.pv (.str [46]))], .callI 127 []⟩] [0, 4, 5, 6])
      (.seq
       (.seq
        (.reg [⟨some 30, none, [.t 0], .v (.mv)⟩,
          ⟨some 31, none, [.t 30], .v (.nilchk)⟩,
          ⟨some 32, none, [.t 31], .v (.faddr 2)⟩,
          ⟨some 33, none, [.t 32], .loadS 1 false⟩] [0, 4, 5, 6, 33])
        (.cond (.t 33)
         (.seq
          (.reg [⟨some 34, none, [], .v (.build [.int .i64 0, .int .i64 0, .str [], .int .i64 0, .lst [], .lst [], .int .i64 0, .str [], .int .i64 0, .int .i64 0, .lst []] [])⟩,
            ⟨none, none, [.t 4, .t 34], .storeL 4 0 11⟩] [4])
          .ret)
         .skip))
       (.seq
        (.reg [⟨some 35, none, [.t 0], .v (.mv)⟩,
          ⟨some 36, none, [.t 35], .callI 134 []⟩,
          ⟨some 37, none, [.t 6], .v (.faddr 3)⟩,
          ⟨none, none, [.t 37, .t 36], .storeL 6 3 11⟩] [0, 4, 5, 6])
        (.seq
         (.reg [⟨some 38, none, [.t 5], .v (.faddr 5)⟩,
           ⟨some 39, none, [.t 38], .loadL 5 5 1 false⟩,
           ⟨some 40, none, [.t 6], .loadL 6 0 14 true⟩,
           ⟨some 41, none, [.t 40], .v (.bslice 14)⟩,
           ⟨some 42, none, [.t 39, .t 41], .append 14 200⟩,
           ⟨some 43, none, [.t 5], .v (.faddr 5)⟩,
           ⟨none, none, [.t 43, .t 42], .storeL 5 5 1⟩] [0, 4, 5])
         (.seq
          (.reg [⟨some 44, none, [.t 0], .v (.mv)⟩,
            ⟨some 45, none, [.t 44, .c (.pv (.str [124]))], .callI 132 []⟩,
            ⟨some 46, none, [.t 45], .v (.un .not)⟩] [0, 4, 5, 46])
          (.cond (.t 46)
           (.exit 0)
           .skip)))))))))
def g140L0 : ACode := .loop [0, 4, 5] g140B0
theorem g140L0_eq {AP : Nat → Option AFunc} {st : St} : cl AP g140L0 st = after (cl AP g140L0) (cl AP g140B0 (norm (restrict [0, 4, 5] st))) := cl_loop
def g140 : AFunc := ⟨2, 50, [.c 4 11 true],
  (.seq
   (.reg [⟨some 4, none, [], .alloc 4 [.int .i64 0, .int .i64 0, .str [], .int .i64 0, .lst [], .lst [], .int .i64 0, .str [], .int .i64 0, .int .i64 0, .lst []]⟩] [0, 1, 4])
   (.seq
    (.reg [⟨some 7, none, [.t 1], .v (.mv)⟩,
      ⟨some 8, none, [.t 0], .v (.mv)⟩,
      ⟨some 9, none, [.t 8], .callI 134 []⟩,
      ⟨some 10, none, [.t 9], .v (.bslice 11)⟩,
      ⟨some 11, none, [.c (.pv (.int .i64 8)), .t 7, .t 10], .v (.build [.int .i64 0, .int .i64 0, .str [], .int .i64 0, .lst [], .lst [], .int .i64 0, .str [], .int .i64 0, .int .i64 0, .lst []] [(0, 1), (1, 1), (4, 1)])⟩,
      ⟨some 5, none, [], .alloc 5 [.int .i64 0, .int .i64 0, .str [], .int .i64 0, .lst [], .lst [], .int .i64 0, .str [], .int .i64 0, .int .i64 0, .lst []]⟩,
      ⟨none, none, [.t 5, .t 11], .storeL 5 0 11⟩] [0, 4, 5])
    (.seq
     (.reg [⟨some 12, none, [.t 0], .v (.mv)⟩,
       ⟨some 13, none, [.t 12, .c (.pv (.str [111, 102]))], .callI 127 []⟩] [0, 4, 5])
     (.seq
      (.block 0
       g140L0)
      (.seq
       (.reg [⟨some 47, none, [.t 0], .v (.mv)⟩,
         ⟨some 48, none, [.t 47, .c (.pv (.str [101, 110, 100]))], .callI 127 []⟩] [4, 5])
       (.seq
        (.reg [⟨some 49, none, [.t 5], .loadL 5 0 11 true⟩,
          ⟨none, none, [.t 4, .t 49], .storeL 4 0 11⟩] [4])
        .ret)))))), none, false⟩

/- typedholes/typedholesref6.atom -/
def g141 : AFunc := ⟨1, 68, [.c 2 11 true],
  (.seq
   (.reg [⟨some 2, none, [], .alloc 2 [.int .i64 0, .int .i64 0, .str [], .int .i64 0, .lst [], .lst [], .int .i64 0, .str [], .int .i64 0, .int .i64 0, .lst []]⟩] [0, 2])
   (.seq
    (.reg [⟨some 7, none, [.t 0], .v (.mv)⟩,
      ⟨some 8, none, [.t 7], .callI 126 []⟩,
      ⟨some 3, none, [.t 8], .v (.mv)⟩] [0, 2, 3])
    (.seq
     (.block 0
      (.seq
       (.reg [⟨some 10, none, [.t 0], .v (.mv)⟩,
         ⟨some 11, none, [.t 10, .c (.pv (.int .i64 1))], .callI 129 []⟩,
         ⟨some 9, none, [.t 11], .v (.mv)⟩] [0, 2, 3, 9])
       (.cond (.t 9)
        (.seq
         (.reg [⟨some 12, none, [.t 3], .v (.mv)⟩,
           ⟨some 13, none, [.t 0], .v (.mv)⟩,
           ⟨some 14, none, [.t 13, .c (.pv (.int .i64 1))], .callI 128 []⟩,
           ⟨some 15, none, [.c (.pv (.int .i64 1)), .t 12, .t 14], .v (.build [.int .i64 0, .int .i64 0, .str [], .int .i64 0, .lst [], .lst [], .int .i64 0, .str [], .int .i64 0, .int .i64 0, .lst []] [(0, 1), (1, 1), (2, 1)])⟩,
           ⟨none, none, [.t 2, .t 15], .storeL 2 0 11⟩] [2])
         .ret)
        (.seq
         (.reg [⟨some 17, none, [.t 0], .v (.mv)⟩,
           ⟨some 18, none, [.t 17, .c (.pv (.int .i64 2))], .callI 129 []⟩,
           ⟨some 16, none, [.t 18], .v (.mv)⟩] [0, 2, 3, 16])
         (.cond (.t 16)
          (.seq
           (.reg [⟨some 19, none, [.t 3], .v (.mv)⟩,
             ⟨some 20, none, [.t 0], .v (.mv)⟩,
             ⟨some 21, none, [.t 20, .c (.pv (.int .i64 2))], .callI 128 []⟩,
             ⟨some 22, none, [.c (.pv (.int .i64 2)), .t 19, .t 21], .v (.build [.int .i64 0, .int .i64 0, .str [], .int .i64 0, .lst [], .lst [], .int .i64 0, .str [], .int .i64 0, .int .i64 0, .lst []] [(0, 1), (1, 1), (2, 1)])⟩,
             ⟨none, none, [.t 2, .t 22], .storeL 2 0 11⟩] [2])
           .ret)
          (.seq
           (.reg [⟨some 24, none, [.t 0], .v (.mv)⟩,
             ⟨some 25, none, [.t 24, .c (.pv (.int .i64 3))], .callI 129 []⟩,
             ⟨some 23, none, [.t 25], .v (.mv)⟩] [0, 2, 3, 23])
           (.cond (.t 23)
            (.seq
             (.reg [⟨some 26, none, [.t 3], .v (.mv)⟩,
               ⟨some 27, none, [.t 0], .v (.mv)⟩,
               ⟨some 28, none, [.t 27, .c (.pv (.int .i64 3))], .callI 128 []⟩,
               ⟨some 29, none, [.t 28], .callP 146⟩,
               ⟨some 30, none, [.c (.pv (.int .i64 3)), .t 26, .t 29], .v (.build [.int .i64 0, .int .i64 0, .str [], .int .i64 0, .lst [], .lst [], .int .i64 0, .str [], .int .i64 0, .int .i64 0, .lst []] [(0, 1), (1, 1), (3, 1)])⟩,
               ⟨none, none, [.t 2, .t 30], .storeL 2 0 11⟩] [2])
             .ret)
            (.seq
             (.reg [⟨some 32, none, [.t 0], .v (.mv)⟩,
               ⟨some 33, none, [.t 32, .c (.pv (.str [63]))], .callI 132 []⟩,
               ⟨some 31, none, [.t 33], .v (.mv)⟩] [0, 2, 3, 31])
             (.cond (.t 31)
              (.seq
               (.reg [⟨some 34, none, [.t 3], .v (.mv)⟩,
                 ⟨some 35, none, [.c (.pv (.int .i64 10)), .t 34], .v (.build [.int .i64 0, .int .i64 0, .str [], .int .i64 0, .lst [], .lst [], .int .i64 0, .str [], .int .i64 0, .int .i64 0, .lst []] [(0, 1), (1, 1)])⟩,
                 ⟨none, none, [.t 2, .t 35], .storeL 2 0 11⟩] [2])
               .ret)
              (.seq
               (.reg [⟨some 37, none, [.t 0], .v (.mv)⟩,
                 ⟨some 38, none, [.t 37, .c (.pv (.str [123]))], .callI 132 []⟩,
                 ⟨some 36, none, [.t 38], .v (.mv)⟩] [0, 2, 3, 36])
               (.cond (.t 36)
                (.seq
                 (.reg [⟨some 39, none, [.t 0], .v (.mv)⟩,
                   ⟨some 40, none, [.t 39], .callI 134 []⟩,
                   ⟨some 4, none, [], .alloc 4 [.int .i64 0, .int .i64 0, .str [], .int .i64 0, .lst [], .lst [], .int .i64 0, .str [], .int .i64 0, .int .i64 0, .lst []]⟩,
                   ⟨none, none, [.t 4, .t 40], .storeL 4 0 11⟩] [0, 2, 3, 4])
                 (.seq
                  (.reg [⟨some 41, none, [.t 0], .v (.mv)⟩,
                    ⟨some 42, none, [.t 41, .c (.pv (.str [125]))], .callI 127 []⟩] [2, 3, 4])
                  (.seq
                   (.reg [⟨some 43, none, [.t 3], .v (.mv)⟩,
                     ⟨some 44, none, [.t 4], .loadL 4 0 11 true⟩,
                     ⟨some 45, none, [.t 44], .v (.bslice 11)⟩,
                     ⟨some 46, none, [.c (.pv (.int .i64 11)), .t 43, .t 45], .v (.build [.int .i64 0, .int .i64 0, .str [], .int .i64 0, .lst [], .lst [], .int .i64 0, .str [], .int .i64 0, .int .i64 0, .lst []] [(0, 1), (1, 1), (4, 1)])⟩,
                     ⟨none, none, [.t 2, .t 46], .storeL 2 0 11⟩] [2])
                   .ret)))
                .skip)))))))))))
     (.seq
      (.reg [⟨some 47, none, [.t 0], .v (.mv)⟩,
        ⟨some 48, none, [.t 47, .c (.pv (.str [40]))], .callI 127 []⟩] [0, 2, 3])
      (.seq
       (.seq
        (.reg [⟨some 49, none, [.t 0], .v (.mv)⟩,
          ⟨some 50, none, [.t 49], .v (.nilchk)⟩,
          ⟨some 51, none, [.t 50], .v (.faddr 2)⟩,
          ⟨some 52, none, [.t 51], .loadS 1 false⟩] [0, 2, 3, 52])
        (.cond (.t 52)
         (.seq
          (.reg [⟨some 53, none, [], .v (.build [.int .i64 0, .int .i64 0, .str [], .int .i64 0, .lst [], .lst [], .int .i64 0, .str [], .int .i64 0, .int .i64 0, .lst []] [])⟩,
            ⟨none, none, [.t 2, .t 53], .storeL 2 0 11⟩] [2])
          .ret)
         .skip))
       (.seq
        (.reg [⟨some 54, none, [.t 0], .v (.mv)⟩,
          ⟨some 55, none, [.t 54], .callI 134 []⟩,
          ⟨some 5, none, [], .alloc 5 [.int .i64 0, .int .i64 0, .str [], .int .i64 0, .lst [], .lst [], .int .i64 0, .str [], .int .i64 0, .int .i64 0, .lst []]⟩,
          ⟨none, none, [.t 5, .t 55], .storeL 5 0 11⟩] [0, 2, 3, 5])
        (.seq
         (.seq
          (.reg [⟨some 56, none, [.t 0], .v (.mv)⟩,
            ⟨some 57, none, [.t 56, .c (.pv (.str [58]))], .callI 132 []⟩] [0, 2, 3, 5, 57])
          (.cond (.t 57)
           (.seq
            (.reg [⟨some 58, none, [.t 0], .v (.mv)⟩,
              ⟨some 59, none, [.t 58], .callI 133 []⟩,
              ⟨some 6, none, [], .alloc 6 [.int .i64 0, .str [], .int .i64 0, .int .i64 0, .lst []]⟩,
              ⟨none, none, [.t 6, .t 59], .storeL 6 0 5⟩] [0, 2, 3, 5, 6])
            (.reg [⟨some 60, none, [.t 3], .v (.mv)⟩,
              ⟨some 61, none, [.t 5], .loadL 5 0 11 true⟩,
              ⟨some 62, none, [.t 61], .v (.bslice 11)⟩,
              ⟨some 63, none, [.t 6], .loadL 6 0 5 true⟩,
              ⟨some 64, none, [.c (.pv (.int .i64 9)), .t 60, .t 62, .t 63], .v (.build [.int .i64 0, .int .i64 0, .str [], .int .i64 0, .lst [], .lst [], .int .i64 0, .str [], .int .i64 0, .int .i64 0, .lst []] [(0, 1), (1, 1), (4, 1), (6, 5)])⟩,
              ⟨none, none, [.t 5, .t 64], .storeL 5 0 11⟩] [0, 2, 5]))
           .skip))
         (.seq
          (.reg [⟨some 65, none, [.t 0], .v (.mv)⟩,
            ⟨some 66, none, [.t 65, .c (.pv (.str [41]))], .callI 127 []⟩] [2, 5])
          (.seq
           (.reg [⟨some 67, none, [.t 5], .loadL 5 0 11 true⟩,
             ⟨none, none, [.t 2, .t 67], .storeL 2 0 11⟩] [2])
           .ret))))))))), none, false⟩

/- typedholes/typedholesref6.Starts -/
def g142 : AFunc := ⟨1, 24, [.t 2],
  (.seq
   (.reg [⟨some 1, none, [.t 0], .box 1 3⟩,
     ⟨some 2, none, [.c (.pv (.bool false))], .v (.mv)⟩] [1])
   (.seq
    (.seq
     (.reg [⟨some 3, none, [.t 1], .v (.faddr 0)⟩,
       ⟨some 4, none, [.t 3], .loadL 1 0 1 false⟩] [1, 4])
     (.block 0
      (.seq
       (.seq
        (.reg [⟨some 6, none, [.t 4, .c (.pv (.int .i64 1))], .v (.bin .eql)⟩,
          ⟨some 5, none, [.t 6], .v (.mv)⟩] [1, 4, 5])
        (.cond (.t 5)
         .skip
         (.seq
          (.reg [⟨some 7, none, [.t 4, .c (.pv (.int .i64 2))], .v (.bin .eql)⟩,
            ⟨some 5, none, [.t 7], .v (.mv)⟩] [1, 4, 5])
          (.cond (.t 5)
           .skip
           (.reg [⟨some 8, none, [.t 4, .c (.pv (.int .i64 3))], .v (.bin .eql)⟩,
             ⟨some 5, none, [.t 8], .v (.mv)⟩] [1, 4, 5])))))
       (.cond (.t 5)
        (.seq
         (.reg [⟨some 2, none, [.c (.pv (.bool true))], .v (.mv)⟩] [2])
         .ret)
        (.seq
         (.reg [⟨some 10, none, [.t 4, .c (.pv (.int .i64 5))], .v (.bin .eql)⟩,
           ⟨some 9, none, [.t 10], .v (.mv)⟩] [1, 9])
         (.cond (.t 9)
          (.seq
           (.reg [⟨some 11, none, [.t 1], .v (.faddr 1)⟩,
             ⟨some 12, none, [.t 11], .loadL 1 1 1 false⟩,
             ⟨some 13, none, [.t 12, .c (.pv (.str [63]))], .v (.bin .eql)⟩,
             ⟨some 14, none, [.t 13], .v (.mv)⟩,
             ⟨some 15, some (14, false), [.t 1], .v (.faddr 1)⟩,
             ⟨some 16, some (14, false), [.t 15], .loadL 1 1 1 false⟩,
             ⟨some 17, some (14, false), [.t 16, .c (.pv (.str [40]))], .v (.bin .eql)⟩,
             ⟨some 18, none, [.t 14, .c (.pv (.bool true)), .t 17], .v (.pick)⟩,
             ⟨some 19, none, [.t 18], .v (.mv)⟩,
             ⟨some 20, some (19, false), [.t 1], .v (.faddr 1)⟩,
             ⟨some 21, some (19, false), [.t 20], .loadL 1 1 1 false⟩,
             ⟨some 22, some (19, false), [.t 21, .c (.pv (.str [123]))], .v (.bin .eql)⟩,
             ⟨some 23, none, [.t 19, .c (.pv (.bool true)), .t 22], .v (.pick)⟩,
             ⟨some 2, none, [.t 23], .v (.mv)⟩] [2])
           .ret)
          .skip))))))
    (.seq
     (.reg [⟨some 2, none, [.c (.pv (.bool false))], .v (.mv)⟩] [2])
     .ret))), none, false⟩

/- typedholes/typedholesref4.Depth -/
def g143B0 : ACode :=
  (.seq
   (.seq
    (.reg [⟨some 8, none, [.t 5], .v (.mv)⟩,
      ⟨some 9, none, [.t 4], .v (.mv)⟩,
      ⟨some 10, none, [.t 9], .v (.len)⟩,
      ⟨some 11, none, [.t 8, .t 10], .v (.bin .lss)⟩] [3, 4, 5, 11])
    (.cond (.t 11)
     .skip
     (.exit 0)))
   (.seq
    (.block 1
     (.reg [⟨some 14, none, [.t 3], .v (.mv)⟩,
       ⟨some 15, none, [.t 4], .v (.mv)⟩,
       ⟨some 16, none, [.t 5], .v (.mv)⟩,
       ⟨some 17, none, [.t 15, .t 16], .v (.iaddr 11)⟩,
       ⟨some 18, none, [.t 17], .v (.loadE 11 true)⟩,
       ⟨some 19, none, [.t 18], .callP 143⟩,
       ⟨some 20, none, [.c (.pv (.int .i64 1)), .t 19], .v (.bin .add)⟩,
       ⟨some 21, none, [.t 14, .t 20], .v (.mx)⟩,
       ⟨some 3, none, [.t 21], .v (.mv)⟩] [3, 4, 5]))
    (.reg [⟨some 12, none, [.t 5], .v (.mv)⟩,
      ⟨some 13, none, [.t 12, .c (.pv (.int .i64 1))], .v (.bin .add)⟩,
      ⟨some 5, none, [.t 13], .v (.mv)⟩] [3, 4, 5])))
def g143L0 : ACode := .loop [3, 4, 5] g143B0
theorem g143L0_eq {AP : Nat → Option AFunc} {st : St} : cl AP g143L0 st = after (cl AP g143L0) (cl AP g143B0 (norm (restrict [3, 4, 5] st))) := cl_loop
def g143 : AFunc := ⟨1, 23, [.t 2],
  (.seq
   (.reg [⟨some 1, none, [.t 0], .box 1 11⟩,
     ⟨some 2, none, [.c (.pv (.int .i64 0))], .v (.mv)⟩] [1])
   (.seq
    (.reg [⟨some 3, none, [.c (.pv (.int .i64 0))], .v (.mv)⟩] [1, 3])
    (.seq
     (.reg [⟨some 6, none, [.t 1], .loadL 1 0 11 true⟩,
       ⟨some 7, none, [.t 6], .callP 145⟩,
       ⟨some 4, none, [.t 7], .v (.mv)⟩] [3, 4])
     (.seq
      (.seq
       (.reg [⟨some 5, none, [.c (.pv (.int .i64 0))], .v (.mv)⟩] [3, 4, 5])
       (.block 0
        g143L0))
      (.seq
       (.reg [⟨some 22, none, [.t 3], .v (.mv)⟩,
         ⟨some 2, none, [.t 22], .v (.mv)⟩] [2])
       .ret))))), none, false⟩

/- typedholes/typedholesref7.deepType -/
def g144B0 : ACode :=
  (.seq
   (.seq
    (.reg [⟨some 16, none, [.t 4], .v (.mv)⟩,
      ⟨some 17, none, [.t 3], .v (.mv)⟩,
      ⟨some 18, none, [.t 17], .v (.len)⟩,
      ⟨some 19, none, [.t 16, .t 18], .v (.bin .lss)⟩] [3, 4, 19])
    (.cond (.t 19)
     .skip
     (.exit 0)))
   (.seq
    (.block 1
     (.seq
      (.reg [⟨some 22, none, [.t 3], .v (.mv)⟩,
        ⟨some 23, none, [.t 4], .v (.mv)⟩,
        ⟨some 24, none, [.t 22, .t 23], .v (.iaddr 11)⟩,
        ⟨some 25, none, [.t 24], .v (.loadE 11 true)⟩,
        ⟨some 26, none, [.t 25], .callP 144⟩] [3, 4, 26])
      (.cond (.t 26)
       (.seq
        (.reg [⟨some 2, none, [.c (.pv (.bool true))], .v (.mv)⟩] [2])
        .ret)
       .skip)))
    (.reg [⟨some 20, none, [.t 4], .v (.mv)⟩,
      ⟨some 21, none, [.t 20, .c (.pv (.int .i64 1))], .v (.bin .add)⟩,
      ⟨some 4, none, [.t 21], .v (.mv)⟩] [3, 4])))
def g144L0 : ACode := .loop [3, 4] g144B0
theorem g144L0_eq {AP : Nat → Option AFunc} {st : St} : cl AP g144L0 st = after (cl AP g144L0) (cl AP g144B0 (norm (restrict [3, 4] st))) := cl_loop
def g144 : AFunc := ⟨1, 27, [.t 2],
  (.seq
   (.reg [⟨some 1, none, [.t 0], .box 1 11⟩,
     ⟨some 2, none, [.c (.pv (.bool false))], .v (.mv)⟩] [1])
   (.seq
    (.seq
     (.reg [⟨some 5, none, [.t 1], .v (.faddr 0)⟩,
       ⟨some 6, none, [.t 5], .loadL 1 0 1 false⟩,
       ⟨some 7, none, [.t 6, .c (.pv (.int .i64 9))], .v (.bin .eql)⟩,
       ⟨some 8, none, [.t 7], .v (.mv)⟩,
       ⟨some 9, some (8, true), [.t 1], .v (.faddr 6)⟩,
       ⟨some 10, some (8, true), [.t 9], .loadL 1 6 5 true⟩,
       ⟨some 11, some (8, true), [.t 10], .callP 52⟩,
       ⟨some 12, some (8, true), [.t 11, .c (.pv (.int .i64 40))], .v (.bin .gtr)⟩,
       ⟨some 13, none, [.t 8, .t 12, .c (.pv (.bool false))], .v (.pick)⟩] [1, 13])
     (.cond (.t 13)
      (.seq
       (.reg [⟨some 2, none, [.c (.pv (.bool true))], .v (.mv)⟩] [2])
       .ret)
      .skip))
    (.seq
     (.reg [⟨some 14, none, [.t 1], .loadL 1 0 11 true⟩,
       ⟨some 15, none, [.t 14], .callP 145⟩,
       ⟨some 3, none, [.t 15], .v (.mv)⟩] [3])
     (.seq
      (.seq
       (.reg [⟨some 4, none, [.c (.pv (.int .i64 0))], .v (.mv)⟩] [3, 4])
       (.block 0
        g144L0))
      (.seq
       (.reg [⟨some 2, none, [.c (.pv (.bool false))], .v (.mv)⟩] [2])
       .ret))))), none, false⟩

/- typedholes/typedholesref4.Children -/
def g145B0 : ACode :=
  (.seq
   (.seq
    (.reg [⟨some 8, none, [.t 4], .v (.mv)⟩,
      ⟨some 9, none, [.t 1], .v (.faddr 5)⟩,
      ⟨some 10, none, [.t 9], .loadL 1 5 1 false⟩,
      ⟨some 11, none, [.t 10], .v (.len)⟩,
      ⟨some 12, none, [.t 8, .t 11], .v (.bin .lss)⟩] [1, 3, 4, 12])
    (.cond (.t 12)
     .skip
     (.exit 0)))
   (.seq
    (.block 1
     (.reg [⟨some 15, none, [.t 3], .v (.mv)⟩,
       ⟨some 16, none, [.t 1], .v (.faddr 5)⟩,
       ⟨some 17, none, [.t 16], .loadL 1 5 1 false⟩,
       ⟨some 18, none, [.t 4], .v (.mv)⟩,
       ⟨some 19, none, [.t 17, .t 18], .v (.iaddr 14)⟩,
       ⟨some 20, none, [.t 19], .v (.faddr 3)⟩,
       ⟨some 21, none, [.t 20], .loadS 11 true⟩,
       ⟨some 22, none, [.t 21], .v (.bslice 11)⟩,
       ⟨some 23, none, [.t 15, .t 22], .appendS 11 152 true⟩,
       ⟨some 3, none, [.t 23], .v (.mv)⟩] [1, 3, 4]))
    (.reg [⟨some 13, none, [.t 4], .v (.mv)⟩,
      ⟨some 14, none, [.t 13, .c (.pv (.int .i64 1))], .v (.bin .add)⟩,
      ⟨some 4, none, [.t 14], .v (.mv)⟩] [1, 3, 4])))
def g145L0 : ACode := .loop [1, 3, 4] g145B0
theorem g145L0_eq {AP : Nat → Option AFunc} {st : St} : cl AP g145L0 st = after (cl AP g145L0) (cl AP g145B0 (norm (restrict [1, 3, 4] st))) := cl_loop
def g145 : AFunc := ⟨1, 25, [.t 2],
  (.seq
   (.reg [⟨some 1, none, [.t 0], .box 1 11⟩,
     ⟨some 2, none, [.c (.clp [])], .v (.mv)⟩] [1])
   (.seq
    (.reg [⟨some 5, none, [.t 1], .v (.faddr 4)⟩,
      ⟨some 6, none, [.t 5], .loadL 1 4 1 false⟩,
      ⟨some 7, none, [.c (.clp []), .t 6], .appendS 11 152 true⟩,
      ⟨some 3, none, [.t 7], .v (.mv)⟩] [1, 3])
    (.seq
     (.seq
      (.reg [⟨some 4, none, [.c (.pv (.int .i64 0))], .v (.mv)⟩] [1, 3, 4])
      (.block 0
       g145L0))
     (.seq
      (.reg [⟨some 24, none, [.t 3], .v (.mv)⟩,
        ⟨some 2, none, [.t 24], .v (.mv)⟩] [2])
      .ret)))), none, true⟩

/- typedholes/typedholesref6.number -/
def g146B0 : ACode :=
  (.seq
   (.seq
    (.reg [⟨some 5, none, [.t 4], .v (.mv)⟩,
      ⟨some 6, none, [.t 0], .v (.mv)⟩,
      ⟨some 7, none, [.t 6], .v (.lenS)⟩,
      ⟨some 8, none, [.t 5, .t 7], .v (.bin .lss)⟩] [0, 3, 4, 8])
    (.cond (.t 8)
     .skip
     (.exit 0)))
   (.seq
    (.block 1
     (.reg [⟨some 11, none, [.t 3], .v (.mv)⟩,
       ⟨some 12, none, [.c (.pv (.int .i64 10)), .t 11], .v (.bin .mul)⟩,
       ⟨some 13, none, [.t 0], .v (.mv)⟩,
       ⟨some 14, none, [.t 4], .v (.mv)⟩,
       ⟨some 15, none, [.t 13, .t 14], .v (.index)⟩,
       ⟨some 16, none, [.t 15, .c (.pv (.int .u8 48))], .v (.bin .sub)⟩,
       ⟨some 17, none, [.t 16], .v (.conv .i64)⟩,
       ⟨some 18, none, [.t 12, .t 17], .v (.bin .add)⟩,
       ⟨some 3, none, [.t 18], .v (.mv)⟩] [0, 3, 4]))
    (.reg [⟨some 9, none, [.t 4], .v (.mv)⟩,
      ⟨some 10, none, [.t 9, .c (.pv (.int .i64 1))], .v (.bin .add)⟩,
      ⟨some 4, none, [.t 10], .v (.mv)⟩] [0, 3, 4])))
def g146L0 : ACode := .loop [0, 3, 4] g146B0
theorem g146L0_eq {AP : Nat → Option AFunc} {st : St} : cl AP g146L0 st = after (cl AP g146L0) (cl AP g146B0 (norm (restrict [0, 3, 4] st))) := cl_loop
def g146 : AFunc := ⟨1, 20, [.t 2],
  (.seq
   (.reg [⟨some 2, none, [.c (.pv (.int .i64 0))], .v (.mv)⟩] [0])
   (.seq
    (.reg [⟨some 3, none, [.c (.pv (.int .i64 0))], .v (.mv)⟩] [0, 3])
    (.seq
     (.seq
      (.reg [⟨some 4, none, [.c (.pv (.int .i64 0))], .v (.mv)⟩] [0, 3, 4])
      (.block 0
       g146L0))
     (.seq
      (.reg [⟨some 19, none, [.t 3], .v (.mv)⟩,
        ⟨some 2, none, [.t 19], .v (.mv)⟩] [2])
      .ret)))), none, false⟩

/- typedholes/environ.Push -/
def g177 : AFunc := ⟨3, 14, [.t 6],
  (.seq
   (.reg [⟨some 5, none, [.t 2], .box 5 6⟩,
     ⟨some 6, none, [.c (.clp [])], .v (.mv)⟩] [0, 1, 5])
   (.seq
    (.reg [⟨some 7, none, [.t 0], .v (.mv)⟩,
      ⟨some 8, none, [.t 7], .callI 209 []⟩,
      ⟨some 9, none, [.t 1], .v (.mv)⟩,
      ⟨some 10, none, [.t 5], .loadL 5 0 6 true⟩,
      ⟨some 11, none, [.t 9, .t 10], .v (.build [.str [], .int .i64 0, .int .i64 0, .str [], .int .i64 0, .int .i64 0, .lst []] [(0, 1), (1, 6)])⟩,
      ⟨some 12, none, [.t 11], .v (.bslice 7)⟩,
      ⟨some 13, none, [.t 8, .t 12], .append 7 88⟩,
      ⟨some 6, none, [.t 13], .v (.mv)⟩] [6])
    .ret)), none, false⟩

/- typedholes/environ.Lookup -/
def g180X0 : ACode :=
  (.reg [⟨some 7, none, [], .alloc 7 [.str [], .int .i64 0, .int .i64 0, .str [], .int .i64 0, .int .i64 0, .lst []]⟩,
    ⟨none, none, [.t 7, .t 11], .storeL 7 0 7⟩] [3, 4, 5, 7])
def g180Y0 : ACode :=
  (.block 1
   (.seq
    (.reg [⟨some 12, none, [.t 7], .v (.faddr 0)⟩,
      ⟨some 13, none, [.t 12], .loadL 7 0 1 false⟩,
      ⟨some 14, none, [.t 3], .loadS 1 false⟩,
      ⟨some 15, none, [.t 13, .t 14], .v (.bin .eql)⟩] [3, 4, 5, 7, 15])
    (.cond (.t 15)
     (.seq
      (.reg [⟨some 16, none, [.t 7], .v (.faddr 1)⟩,
        ⟨some 17, none, [.t 16], .loadL 7 1 6 true⟩,
        ⟨none, none, [.t 4, .t 17], .storeS 6⟩,
        ⟨none, none, [.t 5, .c (.pv (.bool true))], .storeS 1⟩] [4, 5])
      .ret)
     .skip)))
def g180 : AFunc := ⟨2, 19, [.c 4 6 true, .c 5 1 false],
  (.seq
   (.reg [⟨some 3, none, [.t 1], .boxS 1⟩,
     ⟨some 4, none, [], .allocS [.int .i64 0, .int .i64 0, .str [], .int .i64 0, .int .i64 0, .lst []]⟩,
     ⟨some 5, none, [], .allocS [.bool false]⟩] [0, 3, 4, 5])
   (.seq
    (.seq
     (.reg [⟨some 8, none, [.t 0], .v (.mv)⟩,
       ⟨some 9, none, [.t 8], .callI 210 []⟩] [3, 4, 5, 9])
     (.block 0
      (.back (.t 9) 233 10 11 7 true [3, 4, 5, 10, 11] g180X0 g180Y0)))
    (.seq
     (.reg [⟨some 18, none, [], .v (.build [.int .i64 0, .int .i64 0, .str [], .int .i64 0, .int .i64 0, .lst []] [])⟩,
       ⟨none, none, [.t 4, .t 18], .storeS 6⟩,
       ⟨none, none, [.t 5, .c (.pv (.bool false))], .storeS 1⟩] [4, 5])
     .ret))), none, false⟩

/- typedholes/environ.Seen -/
def g182B0 : ACode :=
  (.seq
   (.reg [⟨some 9, none, [.t 8, .t 7], .v (.bin .lss)⟩] [0, 3, 6, 7, 8, 9])
   (.seq
    (.cond (.t 9)
     .skip
     (.exit 0))
    (.seq
     (.block 1
      (.seq
       (.reg [⟨some 10, none, [.t 8], .v (.mv)⟩,
         ⟨some 11, none, [.t 6, .t 8], .v (.iaddr 7)⟩,
         ⟨some 12, none, [.t 11], .v (.loadE 7 true)⟩,
         ⟨some 5, none, [], .allocS [.str [], .int .i64 0, .int .i64 0, .str [], .int .i64 0, .int .i64 0, .lst []]⟩,
         ⟨some 4, none, [.t 10], .v (.mv)⟩,
         ⟨none, none, [.t 5, .t 12], .storeS 7⟩] [0, 3, 4, 5, 6, 7, 8])
       (.seq
        (.reg [⟨some 13, none, [.t 0], .v (.mv)⟩,
          ⟨some 14, none, [.t 4], .v (.mv)⟩,
          ⟨some 15, none, [.t 14, .c (.pv (.int .i64 1))], .v (.bin .add)⟩,
          ⟨some 16, none, [.t 13, .t 15], .v (.slice false 7 true false false)⟩,
          ⟨some 17, none, [.t 5], .v (.mkfn 212)⟩,
          ⟨some 18, none, [.t 16, .t 17], .callI 211 []⟩,
          ⟨some 19, none, [.t 18], .v (.un .not)⟩] [0, 3, 5, 6, 7, 8, 19])
        (.cond (.t 19)
         (.reg [⟨some 20, none, [.t 3], .v (.mv)⟩,
           ⟨some 21, none, [.t 5], .loadS 7 true⟩,
           ⟨some 22, none, [.t 21], .v (.bslice 7)⟩,
           ⟨some 23, none, [.t 20, .t 22], .append 7 88⟩,
           ⟨some 3, none, [.t 23], .v (.mv)⟩] [0, 3, 6, 7, 8])
         .skip))))
     (.reg [⟨some 24, none, [.t 8, .c (.pv (.int .i64 1))], .v (.bin .add)⟩,
       ⟨some 8, none, [.t 24], .v (.mv)⟩] [0, 3, 6, 7, 8]))))
def g182L0 : ACode := .loop [0, 3, 6, 7, 8] g182B0
theorem g182L0_eq {AP : Nat → Option AFunc} {st : St} : cl AP g182L0 st = after (cl AP g182L0) (cl AP g182B0 (norm (restrict [0, 3, 6, 7, 8] st))) := cl_loop
def g182 : AFunc := ⟨1, 26, [.t 2],
  (.seq
   (.reg [⟨some 2, none, [.c (.clp [])], .v (.mv)⟩] [0])
   (.seq
    (.reg [⟨some 3, none, [.c (.clp [])], .v (.mv)⟩] [0, 3])
    (.seq
     (.seq
      (.reg [⟨some 6, none, [.t 0], .v (.mv)⟩,
        ⟨some 7, none, [.t 6], .v (.len)⟩,
        ⟨some 8, none, [.c (.pv (.int .i64 0))], .v (.mv)⟩] [0, 3, 6, 7, 8])
      (.block 0
       g182L0))
     (.seq
      (.reg [⟨some 25, none, [.t 3], .v (.mv)⟩,
        ⟨some 2, none, [.t 25], .v (.mv)⟩] [2])
      .ret)))), none, false⟩

/- typedholes/declare.Find -/
def g190B1 : ACode :=
  (.seq
   (.reg [⟨some 22, none, [.t 21, .t 20], .v (.bin .lss)⟩] [1, 7, 11, 12, 13, 19, 20, 21, 22])
   (.seq
    (.cond (.t 22)
     .skip
     (.exit 2))
    (.seq
     (.block 3
      (.seq
       (.reg [⟨some 23, none, [.t 21], .v (.mv)⟩,
         ⟨some 24, none, [.t 19, .t 21], .v (.iaddr 3)⟩,
         ⟨some 25, none, [.t 24], .v (.loadE 3 true)⟩,
         ⟨some 10, none, [], .alloc 10 [.int .i64 0, .str [], .lst []]⟩,
         ⟨some 9, none, [.t 23], .v (.mv)⟩,
         ⟨none, none, [.t 10, .t 25], .storeL 10 0 3⟩] [1, 7, 9, 10, 11, 12, 13, 19, 20, 21])
       (.seq
        (.reg [⟨some 26, none, [.t 10], .v (.faddr 1)⟩,
          ⟨some 27, none, [.t 26], .loadL 10 1 1 false⟩,
          ⟨some 28, none, [.t 1], .v (.mv)⟩,
          ⟨some 29, none, [.t 27, .t 28], .v (.bin .eql)⟩] [1, 7, 9, 11, 12, 13, 19, 20, 21, 29])
        (.cond (.t 29)
         (.seq
          (.reg [⟨some 30, none, [.t 7], .v (.mv)⟩,
            ⟨some 31, none, [.t 9], .v (.mv)⟩,
            ⟨some 4, none, [.t 30], .v (.mv)⟩,
            ⟨some 5, none, [.t 31], .v (.mv)⟩,
            ⟨some 6, none, [.c (.pv (.bool true))], .v (.mv)⟩] [4, 5, 6])
          .ret)
         .skip))))
     (.reg [⟨some 32, none, [.t 21, .c (.pv (.int .i64 1))], .v (.bin .add)⟩,
       ⟨some 21, none, [.t 32], .v (.mv)⟩] [1, 7, 11, 12, 13, 19, 20, 21]))))
def g190L1 : ACode := .loop [1, 7, 11, 12, 13, 19, 20, 21] g190B1
theorem g190L1_eq {AP : Nat → Option AFunc} {st : St} : cl AP g190L1 st = after (cl AP g190L1) (cl AP g190B1 (norm (restrict [1, 7, 11, 12, 13, 19, 20, 21] st))) := cl_loop
def g190B0 : ACode :=
  (.seq
   (.reg [⟨some 14, none, [.t 13, .t 12], .v (.bin .lss)⟩] [1, 11, 12, 13, 14])
   (.seq
    (.cond (.t 14)
     .skip
     (.exit 0))
    (.seq
     (.block 1
      (.seq
       (.reg [⟨some 15, none, [.t 13], .v (.mv)⟩,
         ⟨some 16, none, [.t 11, .t 13], .v (.iaddr 4)⟩,
         ⟨some 17, none, [.t 16], .v (.loadE 4 true)⟩,
         ⟨some 8, none, [], .alloc 8 [.int .i64 0, .str [], .lst [], .lst []]⟩,
         ⟨some 7, none, [.t 15], .v (.mv)⟩,
         ⟨none, none, [.t 8, .t 17], .storeL 8 0 4⟩] [1, 7, 8, 11, 12, 13])
       (.seq
        (.reg [⟨some 18, none, [.t 8], .v (.faddr 3)⟩,
          ⟨some 19, none, [.t 18], .loadL 8 3 1 false⟩,
          ⟨some 20, none, [.t 19], .v (.len)⟩,
          ⟨some 21, none, [.c (.pv (.int .i64 0))], .v (.mv)⟩] [1, 7, 11, 12, 13, 19, 20, 21])
        (.block 2
         g190L1))))
     (.reg [⟨some 33, none, [.t 13, .c (.pv (.int .i64 1))], .v (.bin .add)⟩,
       ⟨some 13, none, [.t 33], .v (.mv)⟩] [1, 11, 12, 13]))))
def g190L0 : ACode := .loop [1, 11, 12, 13] g190B0
theorem g190L0_eq {AP : Nat → Option AFunc} {st : St} : cl AP g190L0 st = after (cl AP g190L0) (cl AP g190B0 (norm (restrict [1, 11, 12, 13] st))) := cl_loop
def g190 : AFunc := ⟨2, 34, [.t 4, .t 5, .t 6],
  (.seq
   (.reg [⟨some 4, none, [.c (.pv (.int .i64 0))], .v (.mv)⟩,
     ⟨some 5, none, [.c (.pv (.int .i64 0))], .v (.mv)⟩,
     ⟨some 6, none, [.c (.pv (.bool false))], .v (.mv)⟩] [0, 1])
   (.seq
    (.seq
     (.reg [⟨some 11, none, [.t 0], .v (.mv)⟩,
       ⟨some 12, none, [.t 11], .v (.len)⟩,
       ⟨some 13, none, [.c (.pv (.int .i64 0))], .v (.mv)⟩] [1, 11, 12, 13])
     (.block 0
      g190L0))
    (.seq
     (.reg [⟨some 4, none, [.c (.pv (.int .i64 0))], .v (.mv)⟩,
       ⟨some 5, none, [.c (.pv (.int .i64 0))], .v (.mv)⟩,
       ⟨some 6, none, [.c (.pv (.bool false))], .v (.mv)⟩] [4, 5, 6])
     .ret))), none, false⟩

/- typedholes/declare.Constructor -/
def g192B0 : ACode :=
  (.seq
   (.reg [⟨some 36, none, [.t 35, .t 34], .v (.bin .lss)⟩] [4, 7, 9, 10, 34, 35, 36])
   (.seq
    (.cond (.t 36)
     .skip
     (.exit 0))
    (.seq
     (.block 1
      (.seq
       (.reg [⟨some 37, none, [.t 35], .v (.mv)⟩,
         ⟨some 11, none, [.t 37], .v (.mv)⟩] [4, 7, 9, 10, 11, 34, 35])
       (.reg [⟨some 38, none, [.t 10], .v (.mv)⟩,
         ⟨some 39, none, [.t 11], .v (.mv)⟩,
         ⟨some 40, none, [.t 11], .v (.mv)⟩,
         ⟨some 41, none, [.c (.pv (.int .i64 2)), .t 40], .v (.build [.int .i64 0, .str [], .int .i64 0, .int .i64 0, .lst []] [(0, 1), (2, 1)])⟩,
         ⟨some 42, none, [.t 38, .t 39], .v (.iaddr 5)⟩,
         ⟨none, none, [.t 42, .t 41], .storeS 5⟩] [4, 7, 9, 10, 34, 35])))
     (.reg [⟨some 43, none, [.t 35, .c (.pv (.int .i64 1))], .v (.bin .add)⟩,
       ⟨some 35, none, [.t 43], .v (.mv)⟩] [4, 7, 9, 10, 34, 35]))))
def g192L0 : ACode := .loop [4, 7, 9, 10, 34, 35] g192B0
theorem g192L0_eq {AP : Nat → Option AFunc} {st : St} : cl AP g192L0 st = after (cl AP g192L0) (cl AP g192B0 (norm (restrict [4, 7, 9, 10, 34, 35] st))) := cl_loop
def g192X1 : ACode :=
  (.reg [⟨some 14, none, [], .alloc 14 [.int .i64 0, .str [], .int .i64 0, .int .i64 0, .lst []]⟩,
    ⟨none, none, [.t 14, .t 56], .storeL 14 0 5⟩] [4, 9, 12, 14])
def g192Y1 : ACode :=
  (.block 3
   (.reg [⟨some 57, none, [.t 14], .loadL 14 0 5 true⟩,
     ⟨some 58, none, [.t 9], .v (.faddr 2)⟩,
     ⟨some 59, none, [.t 58], .loadS 1 false⟩,
     ⟨some 60, none, [.t 57, .t 59], .callP 197⟩,
     ⟨some 61, none, [.t 12], .loadS 5 true⟩,
     ⟨some 62, none, [.t 60, .t 61], .callP 220⟩,
     ⟨none, none, [.t 12, .t 62], .storeS 5⟩] [4, 9, 12]))
def g192 : AFunc := ⟨2, 68, [.c 4 6 true, .t 5],
  (.seq
   (.reg [⟨some 4, none, [], .allocS [.int .i64 0, .int .i64 0, .str [], .int .i64 0, .int .i64 0, .lst []]⟩,
     ⟨some 5, none, [.c (.pv (.bool false))], .v (.mv)⟩] [0, 1, 4])
   (.seq
    (.reg [⟨some 16, none, [.t 0], .v (.mv)⟩,
      ⟨some 17, none, [.t 1], .v (.mv)⟩,
      ⟨some 18, none, [.t 16, .t 17], .callP 190⟩,
      ⟨some 15, none, [.t 18], .v (.mv)⟩,
      ⟨some 19, none, [.t 15], .v (.ext 0)⟩,
      ⟨some 20, none, [.t 15], .v (.ext 1)⟩,
      ⟨some 21, none, [.t 15], .v (.ext 2)⟩,
      ⟨some 6, none, [.t 19], .v (.mv)⟩,
      ⟨some 7, none, [.t 20], .v (.mv)⟩,
      ⟨some 8, none, [.t 21], .v (.mv)⟩] [0, 4, 6, 7, 8])
    (.seq
     (.seq
      (.reg [⟨some 22, none, [.t 8], .v (.mv)⟩,
        ⟨some 23, none, [.t 22], .v (.un .not)⟩] [0, 4, 6, 7, 23])
      (.cond (.t 23)
       (.seq
        (.reg [⟨some 24, none, [], .v (.build [.int .i64 0, .int .i64 0, .str [], .int .i64 0, .int .i64 0, .lst []] [])⟩,
          ⟨none, none, [.t 4, .t 24], .storeS 6⟩,
          ⟨some 5, none, [.c (.pv (.bool false))], .v (.mv)⟩] [4, 5])
        .ret)
       .skip))
     (.seq
      (.reg [⟨some 25, none, [.t 0], .v (.mv)⟩,
        ⟨some 26, none, [.t 6], .v (.mv)⟩,
        ⟨some 27, none, [.t 25, .t 26], .v (.iaddr 4)⟩,
        ⟨some 28, none, [.t 27], .v (.loadE 4 true)⟩,
        ⟨some 9, none, [], .allocS [.int .i64 0, .str [], .lst [], .lst []]⟩,
        ⟨none, none, [.t 9, .t 28], .storeS 4⟩] [4, 7, 9])
      (.seq
       (.reg [⟨some 29, none, [.t 9], .v (.faddr 2)⟩,
         ⟨some 30, none, [.t 29], .loadS 1 false⟩,
         ⟨some 31, none, [.t 30], .v (.len)⟩,
         ⟨some 32, none, [.t 31, .t 31], .makeS 5 64 true [.int .i64 0, .str [], .int .i64 0, .int .i64 0, .lst []]⟩,
         ⟨some 10, none, [.t 32], .v (.mv)⟩] [4, 7, 9, 10])
       (.seq
        (.seq
         (.reg [⟨some 33, none, [.t 10], .v (.mv)⟩,
           ⟨some 34, none, [.t 33], .v (.len)⟩,
           ⟨some 35, none, [.c (.pv (.int .i64 0))], .v (.mv)⟩] [4, 7, 9, 10, 34, 35])
         (.block 0
          g192L0))
        (.seq
         (.reg [⟨some 44, none, [.t 9], .v (.faddr 1)⟩,
           ⟨some 45, none, [.t 44], .loadS 1 false⟩,
           ⟨some 46, none, [.t 10], .v (.mv)⟩,
           ⟨some 47, none, [.t 45, .t 46], .callPS 218⟩,
           ⟨some 12, none, [], .allocS [.int .i64 0, .str [], .int .i64 0, .int .i64 0, .lst []]⟩,
           ⟨none, none, [.t 12, .t 47], .storeS 5⟩] [4, 7, 9, 12])
         (.seq
          (.seq
           (.reg [⟨some 48, none, [.t 9], .v (.faddr 3)⟩,
             ⟨some 49, none, [.t 48], .loadS 1 false⟩,
             ⟨some 50, none, [.t 7], .v (.mv)⟩,
             ⟨some 51, none, [.t 49, .t 50], .v (.iaddr 3)⟩,
             ⟨some 52, none, [.t 51], .v (.faddr 2)⟩,
             ⟨some 53, none, [.t 52], .v (.loadE 1 false)⟩,
             ⟨some 54, none, [.t 53], .callI 219 []⟩] [4, 9, 12, 54])
           (.block 2
            (.back (.t 54) 236 55 56 5 true [4, 9, 12, 55, 56] g192X1 g192Y1)))
          (.seq
           (.reg [⟨some 63, none, [.t 9], .v (.faddr 2)⟩,
             ⟨some 64, none, [.t 63], .loadS 1 false⟩,
             ⟨some 65, none, [.t 64], .v (.len)⟩,
             ⟨some 66, none, [.t 12], .loadS 5 true⟩,
             ⟨some 67, none, [.t 65, .t 66], .v (.build [.int .i64 0, .int .i64 0, .str [], .int .i64 0, .int .i64 0, .lst []] [(0, 1), (1, 5)])⟩,
             ⟨none, none, [.t 4, .t 67], .storeS 6⟩,
             ⟨some 5, none, [.c (.pv (.bool true))], .v (.mv)⟩] [4, 5])
           .ret))))))))), none, false⟩

/- typedholes/declare.Names -/
def g195B1 : ACode :=
  (.seq
   (.reg [⟨some 27, none, [.t 26, .t 25], .v (.bin .lss)⟩] [3, 17, 18, 19, 24, 25, 26, 27])
   (.seq
    (.cond (.t 27)
     .skip
     (.exit 2))
    (.seq
     (.block 3
      (.seq
       (.reg [⟨some 28, none, [.t 24, .t 26], .v (.iaddr 1)⟩,
         ⟨some 29, none, [.t 28], .v (.loadE 1 false)⟩,
         ⟨some 7, none, [.t 29], .v (.mv)⟩] [3, 7, 17, 18, 19, 24, 25, 26])
       (.seq
        (.reg [⟨some 30, none, [.t 3], .v (.mv)⟩,
          ⟨some 31, none, [.t 7], .v (.mv)⟩,
          ⟨some 32, none, [.t 30, .t 31], .callP 214⟩,
          ⟨some 33, none, [.t 32], .v (.un .not)⟩] [3, 7, 17, 18, 19, 24, 25, 26, 33])
        (.cond (.t 33)
         (.reg [⟨some 34, none, [.t 3], .v (.mv)⟩,
           ⟨some 35, none, [.t 7], .v (.mv)⟩,
           ⟨some 36, none, [.t 35], .v (.bslice 1)⟩,
           ⟨some 37, none, [.t 34, .t 36], .append 1 16⟩,
           ⟨some 3, none, [.t 37], .v (.mv)⟩] [3, 17, 18, 19, 24, 25, 26])
         .skip))))
     (.reg [⟨some 38, none, [.t 26, .c (.pv (.int .i64 1))], .v (.bin .add)⟩,
       ⟨some 26, none, [.t 38], .v (.mv)⟩] [3, 17, 18, 19, 24, 25, 26]))))
def g195L1 : ACode := .loop [3, 17, 18, 19, 24, 25, 26] g195B1
theorem g195L1_eq {AP : Nat → Option AFunc} {st : St} : cl AP g195L1 st = after (cl AP g195L1) (cl AP g195B1 (norm (restrict [3, 17, 18, 19, 24, 25, 26] st))) := cl_loop
def g195B0 : ACode :=
  (.seq
   (.reg [⟨some 20, none, [.t 19, .t 18], .v (.bin .lss)⟩] [3, 17, 18, 19, 20])
   (.seq
    (.cond (.t 20)
     .skip
     (.exit 0))
    (.seq
     (.block 1
      (.seq
       (.reg [⟨some 21, none, [.t 17, .t 19], .v (.iaddr 5)⟩,
         ⟨some 22, none, [.t 21], .v (.loadE 5 true)⟩,
         ⟨some 5, none, [], .alloc 5 [.int .i64 0, .str [], .int .i64 0, .int .i64 0, .lst []]⟩,
         ⟨none, none, [.t 5, .t 22], .storeL 5 0 5⟩] [3, 5, 17, 18, 19])
       (.seq
        (.reg [⟨some 23, none, [.t 5], .loadL 5 0 5 true⟩,
          ⟨some 24, none, [.t 23], .callP 195⟩,
          ⟨some 25, none, [.t 24], .v (.len)⟩,
          ⟨some 26, none, [.c (.pv (.int .i64 0))], .v (.mv)⟩] [3, 17, 18, 19, 24, 25, 26])
        (.block 2
         g195L1))))
     (.reg [⟨some 39, none, [.t 19, .c (.pv (.int .i64 1))], .v (.bin .add)⟩,
       ⟨some 19, none, [.t 39], .v (.mv)⟩] [3, 17, 18, 19]))))
def g195L0 : ACode := .loop [3, 17, 18, 19] g195B0
theorem g195L0_eq {AP : Nat → Option AFunc} {st : St} : cl AP g195L0 st = after (cl AP g195L0) (cl AP g195B0 (norm (restrict [3, 17, 18, 19] st))) := cl_loop
def g195 : AFunc := ⟨1, 41, [.t 2],
  (.seq
   (.reg [⟨some 1, none, [.t 0], .box 1 5⟩,
     ⟨some 2, none, [.c (.clp [])], .v (.mv)⟩] [1])
   (.seq
    (.reg [⟨some 3, none, [.c (.clp [])], .v (.mv)⟩] [1, 3])
    (.seq
     (.seq
      (.reg [⟨some 8, none, [.t 1], .v (.faddr 0)⟩,
        ⟨some 9, none, [.t 8], .loadL 1 0 1 false⟩,
        ⟨some 10, none, [.t 9, .c (.pv (.int .i64 5))], .v (.bin .eql)⟩] [1, 3, 10])
      (.cond (.t 10)
       (.seq
        (.reg [⟨some 11, none, [.t 3], .v (.mv)⟩,
          ⟨some 12, none, [.t 1], .v (.faddr 1)⟩,
          ⟨some 13, none, [.t 12], .loadL 1 1 1 false⟩,
          ⟨some 14, none, [.t 13], .v (.bslice 1)⟩,
          ⟨some 15, none, [.t 11, .t 14], .append 1 16⟩,
          ⟨some 2, none, [.t 15], .v (.mv)⟩] [2])
        .ret)
       .skip))
     (.seq
      (.seq
       (.reg [⟨some 16, none, [.t 1], .v (.faddr 4)⟩,
         ⟨some 17, none, [.t 16], .loadL 1 4 1 false⟩,
         ⟨some 18, none, [.t 17], .v (.len)⟩,
         ⟨some 19, none, [.c (.pv (.int .i64 0))], .v (.mv)⟩] [3, 17, 18, 19])
       (.block 0
        g195L0))
      (.seq
       (.reg [⟨some 40, none, [.t 3], .v (.mv)⟩,
         ⟨some 2, none, [.t 40], .v (.mv)⟩] [2])
       .ret))))), none, false⟩

/- typedholes/declare.Bind -/
def g197B0 : ACode :=
  (.seq
   (.reg [⟨some 30, none, [.t 29, .t 28], .v (.bin .lss)⟩] [1, 2, 4, 6, 27, 28, 29, 30])
   (.seq
    (.cond (.t 30)
     .skip
     (.exit 0))
    (.seq
     (.block 1
      (.seq
       (.reg [⟨some 31, none, [.t 29], .v (.mv)⟩,
         ⟨some 32, none, [.t 27, .t 29], .v (.iaddr 5)⟩,
         ⟨some 33, none, [.t 32], .loadS 5 true⟩,
         ⟨some 8, none, [], .alloc 8 [.int .i64 0, .str [], .int .i64 0, .int .i64 0, .lst []]⟩,
         ⟨some 7, none, [.t 31], .v (.mv)⟩,
         ⟨none, none, [.t 8, .t 33], .storeL 8 0 5⟩] [1, 2, 4, 6, 7, 8, 27, 28, 29])
       (.reg [⟨some 34, none, [.t 6], .v (.mv)⟩,
         ⟨some 35, none, [.t 7], .v (.mv)⟩,
         ⟨some 36, none, [.t 8], .loadL 8 0 5 true⟩,
         ⟨some 37, none, [.t 1], .v (.mv)⟩,
         ⟨some 38, none, [.t 36, .t 37], .callP 197⟩,
         ⟨some 39, none, [.t 34, .t 35], .v (.iaddr 5)⟩,
         ⟨none, none, [.t 39, .t 38], .storeS 5⟩] [1, 2, 4, 6, 27, 28, 29])))
     (.reg [⟨some 40, none, [.t 29, .c (.pv (.int .i64 1))], .v (.bin .add)⟩,
       ⟨some 29, none, [.t 40], .v (.mv)⟩] [1, 2, 4, 6, 27, 28, 29]))))
def g197L0 : ACode := .loop [1, 2, 4, 6, 27, 28, 29] g197B0
theorem g197L0_eq {AP : Nat → Option AFunc} {st : St} : cl AP g197L0 st = after (cl AP g197L0) (cl AP g197B0 (norm (restrict [1, 2, 4, 6, 27, 28, 29] st))) := cl_loop
def g197 : AFunc := ⟨2, 44, [.c 4 5 true],
  (.seq
   (.reg [⟨some 2, none, [.t 0], .box 2 5⟩,
     ⟨some 4, none, [], .alloc 4 [.int .i64 0, .str [], .int .i64 0, .int .i64 0, .lst []]⟩] [1, 2, 4])
   (.seq
    (.seq
     (.reg [⟨some 9, none, [.t 1], .v (.mv)⟩,
       ⟨some 10, none, [.t 2], .v (.faddr 1)⟩,
       ⟨some 11, none, [.t 10], .loadL 2 1 1 false⟩,
       ⟨some 12, none, [.t 9, .t 11], .callPS 223⟩,
       ⟨some 5, none, [.t 12], .v (.mv)⟩] [1, 2, 4, 5])
     (.seq
      (.reg [⟨some 13, none, [.t 2], .v (.faddr 0)⟩,
        ⟨some 14, none, [.t 13], .loadL 2 0 1 false⟩,
        ⟨some 15, none, [.t 14, .c (.pv (.int .i64 5))], .v (.bin .eql)⟩,
        ⟨some 16, none, [.t 15], .v (.mv)⟩,
        ⟨some 17, some (16, true), [.t 5], .v (.mv)⟩,
        ⟨some 18, some (16, true), [.t 17, .c (.pv (.int .i64 0))], .v (.bin .geq)⟩,
        ⟨some 19, none, [.t 16, .t 18, .c (.pv (.bool false))], .v (.pick)⟩] [1, 2, 4, 5, 19])
      (.cond (.t 19)
       (.seq
        (.reg [⟨some 20, none, [.t 5], .v (.mv)⟩,
          ⟨some 21, none, [.c (.pv (.int .i64 2)), .t 20], .v (.build [.int .i64 0, .str [], .int .i64 0, .int .i64 0, .lst []] [(0, 1), (2, 1)])⟩,
          ⟨none, none, [.t 4, .t 21], .storeL 4 0 5⟩] [4])
        .ret)
       .skip)))
    (.seq
     (.reg [⟨some 22, none, [.t 2], .v (.faddr 4)⟩,
       ⟨some 23, none, [.t 22], .loadL 2 4 1 false⟩,
       ⟨some 24, none, [.t 23], .v (.len)⟩,
       ⟨some 25, none, [.t 24, .t 24], .makeS 5 64 true [.int .i64 0, .str [], .int .i64 0, .int .i64 0, .lst []]⟩,
       ⟨some 6, none, [.t 25], .v (.mv)⟩] [1, 2, 4, 6])
     (.seq
      (.seq
       (.reg [⟨some 26, none, [.t 2], .v (.faddr 4)⟩,
         ⟨some 27, none, [.t 26], .loadL 2 4 1 false⟩,
         ⟨some 28, none, [.t 27], .v (.len)⟩,
         ⟨some 29, none, [.c (.pv (.int .i64 0))], .v (.mv)⟩] [1, 2, 4, 6, 27, 28, 29])
       (.block 0
        g197L0))
      (.seq
       (.reg [⟨some 41, none, [.t 6], .v (.mv)⟩,
         ⟨some 42, none, [.t 2], .v (.faddr 4)⟩,
         ⟨none, none, [.t 42, .t 41], .storeL 2 4 1⟩] [2, 4])
       (.seq
        (.reg [⟨some 43, none, [.t 2], .loadL 2 0 5 true⟩,
          ⟨none, none, [.t 4, .t 43], .storeL 4 0 5⟩] [4])
        .ret)))))), none, false⟩

/- typedholes/environ.Free -/
def g199B0 : ACode :=
  (.seq
   (.reg [⟨some 10, none, [.t 9, .t 8], .v (.bin .lss)⟩] [3, 7, 8, 9, 10])
   (.seq
    (.cond (.t 10)
     .skip
     (.exit 0))
    (.seq
     (.block 1
      (.seq
       (.reg [⟨some 11, none, [.t 7, .t 9], .v (.iaddr 7)⟩,
         ⟨some 12, none, [.t 11], .v (.loadE 7 true)⟩,
         ⟨some 5, none, [], .alloc 5 [.str [], .int .i64 0, .int .i64 0, .str [], .int .i64 0, .int .i64 0, .lst []]⟩,
         ⟨none, none, [.t 5, .t 12], .storeL 5 0 7⟩] [3, 5, 7, 8, 9])
       (.reg [⟨some 13, none, [.t 3], .v (.mv)⟩,
         ⟨some 14, none, [.t 5], .v (.faddr 1)⟩,
         ⟨some 15, none, [.t 14], .loadL 5 1 6 true⟩,
         ⟨some 16, none, [.t 15], .v (.bslice 6)⟩,
         ⟨some 17, none, [.t 13, .t 16], .append 6 72⟩,
         ⟨some 3, none, [.t 17], .v (.mv)⟩] [3, 7, 8, 9])))
     (.reg [⟨some 18, none, [.t 9, .c (.pv (.int .i64 1))], .v (.bin .add)⟩,
       ⟨some 9, none, [.t 18], .v (.mv)⟩] [3, 7, 8, 9]))))
def g199L0 : ACode := .loop [3, 7, 8, 9] g199B0
theorem g199L0_eq {AP : Nat → Option AFunc} {st : St} : cl AP g199L0 st = after (cl AP g199L0) (cl AP g199B0 (norm (restrict [3, 7, 8, 9] st))) := cl_loop
def g199 : AFunc := ⟨1, 21, [.t 2],
  (.seq
   (.reg [⟨some 2, none, [.c (.clp [])], .v (.mv)⟩] [0])
   (.seq
    (.reg [⟨some 3, none, [.c (.clp [])], .v (.mv)⟩] [0, 3])
    (.seq
     (.seq
      (.reg [⟨some 6, none, [.t 0], .v (.mv)⟩,
        ⟨some 7, none, [.t 6], .callP 182⟩,
        ⟨some 8, none, [.t 7], .v (.len)⟩,
        ⟨some 9, none, [.c (.pv (.int .i64 0))], .v (.mv)⟩] [3, 7, 8, 9])
      (.block 0
       g199L0))
     (.seq
      (.reg [⟨some 19, none, [.t 3], .v (.mv)⟩,
        ⟨some 20, none, [.t 19], .callI 224 []⟩,
        ⟨some 2, none, [.t 20], .v (.mv)⟩] [2])
      .ret)))), none, false⟩

/- typedholes/declare.Fields -/
def g206B0 : ACode :=
  (.seq
   (.reg [⟨some 45, none, [.t 44, .t 43], .v (.bin .lss)⟩] [0, 2, 8, 11, 42, 43, 44, 45])
   (.seq
    (.cond (.t 45)
     .skip
     (.exit 0))
    (.seq
     (.block 1
      (.seq
       (.reg [⟨some 46, none, [.t 42, .t 44], .v (.iaddr 5)⟩,
         ⟨some 47, none, [.t 46], .v (.loadE 5 true)⟩,
         ⟨some 13, none, [], .alloc 13 [.int .i64 0, .str [], .int .i64 0, .int .i64 0, .lst []]⟩,
         ⟨none, none, [.t 13, .t 47], .storeL 13 0 5⟩] [0, 2, 8, 11, 13, 42, 43, 44])
       (.reg [⟨some 48, none, [.t 11], .v (.mv)⟩,
         ⟨some 49, none, [.t 13], .loadL 13 0 5 true⟩,
         ⟨some 50, none, [.t 0], .v (.mv)⟩,
         ⟨some 51, none, [.t 8], .v (.mv)⟩,
         ⟨some 52, none, [.t 50, .t 51], .v (.iaddr 4)⟩,
         ⟨some 53, none, [.t 52], .v (.faddr 2)⟩,
         ⟨some 54, none, [.t 53], .v (.loadE 1 false)⟩,
         ⟨some 55, none, [.t 49, .t 54], .callP 197⟩,
         ⟨some 56, none, [.t 2], .v (.mv)⟩,
         ⟨some 57, none, [.t 55, .t 56], .callP 47⟩,
         ⟨some 58, none, [.t 57], .v (.bslice 5)⟩,
         ⟨some 59, none, [.t 48, .t 58], .append 5 64⟩,
         ⟨some 11, none, [.t 59], .v (.mv)⟩] [0, 2, 8, 11, 42, 43, 44])))
     (.reg [⟨some 60, none, [.t 44, .c (.pv (.int .i64 1))], .v (.bin .add)⟩,
       ⟨some 44, none, [.t 60], .v (.mv)⟩] [0, 2, 8, 11, 42, 43, 44]))))
def g206L0 : ACode := .loop [0, 2, 8, 11, 42, 43, 44] g206B0
theorem g206L0_eq {AP : Nat → Option AFunc} {st : St} : cl AP g206L0 st = after (cl AP g206L0) (cl AP g206B0 (norm (restrict [0, 2, 8, 11, 42, 43, 44] st))) := cl_loop
def g206 : AFunc := ⟨3, 62, [.t 6, .t 7],
  (.seq
   (.reg [⟨some 6, none, [.c (.clp [])], .v (.mv)⟩,
     ⟨some 7, none, [.c (.pv (.bool false))], .v (.mv)⟩] [0, 1, 2])
   (.seq
    (.reg [⟨some 15, none, [.t 0], .v (.mv)⟩,
      ⟨some 16, none, [.t 1], .v (.mv)⟩,
      ⟨some 17, none, [.t 15, .t 16], .callP 190⟩,
      ⟨some 14, none, [.t 17], .v (.mv)⟩,
      ⟨some 18, none, [.t 14], .v (.ext 0)⟩,
      ⟨some 19, none, [.t 14], .v (.ext 1)⟩,
      ⟨some 20, none, [.t 14], .v (.ext 2)⟩,
      ⟨some 8, none, [.t 18], .v (.mv)⟩,
      ⟨some 9, none, [.t 19], .v (.mv)⟩,
      ⟨some 10, none, [.t 20], .v (.mv)⟩] [0, 2, 8, 9, 10])
    (.seq
     (.seq
      (.reg [⟨some 21, none, [.t 10], .v (.mv)⟩,
        ⟨some 22, none, [.t 21], .v (.un .not)⟩,
        ⟨some 23, none, [.t 22], .v (.mv)⟩,
        ⟨some 24, some (23, false), [.t 2], .v (.mv)⟩,
        ⟨some 25, some (23, false), [.t 24], .v (.len)⟩,
        ⟨some 26, some (23, false), [.t 0], .v (.mv)⟩,
        ⟨some 27, some (23, false), [.t 8], .v (.mv)⟩,
        ⟨some 28, some (23, false), [.t 26, .t 27], .v (.iaddr 4)⟩,
        ⟨some 29, some (23, false), [.t 28], .v (.faddr 2)⟩,
        ⟨some 30, some (23, false), [.t 29], .v (.loadE 1 false)⟩,
        ⟨some 31, some (23, false), [.t 30], .v (.len)⟩,
        ⟨some 32, some (23, false), [.t 25, .t 31], .v (.bin .neq)⟩,
        ⟨some 33, none, [.t 23, .c (.pv (.bool true)), .t 32], .v (.pick)⟩] [0, 2, 8, 9, 33])
      (.cond (.t 33)
       (.seq
        (.reg [⟨some 6, none, [.c (.clp [])], .v (.mv)⟩,
          ⟨some 7, none, [.c (.pv (.bool false))], .v (.mv)⟩] [6, 7])
        .ret)
       .skip))
     (.seq
      (.reg [⟨some 11, none, [.c (.clp [])], .v (.mv)⟩] [0, 2, 8, 9, 11])
      (.seq
       (.seq
        (.reg [⟨some 34, none, [.t 0], .v (.mv)⟩,
          ⟨some 35, none, [.t 8], .v (.mv)⟩,
          ⟨some 36, none, [.t 34, .t 35], .v (.iaddr 4)⟩,
          ⟨some 37, none, [.t 36], .v (.faddr 3)⟩,
          ⟨some 38, none, [.t 37], .v (.loadE 1 false)⟩,
          ⟨some 39, none, [.t 9], .v (.mv)⟩,
          ⟨some 40, none, [.t 38, .t 39], .v (.iaddr 3)⟩,
          ⟨some 41, none, [.t 40], .v (.faddr 2)⟩,
          ⟨some 42, none, [.t 41], .v (.loadE 1 false)⟩,
          ⟨some 43, none, [.t 42], .v (.len)⟩,
          ⟨some 44, none, [.c (.pv (.int .i64 0))], .v (.mv)⟩] [0, 2, 8, 11, 42, 43, 44])
        (.block 0
         g206L0))
       (.seq
        (.reg [⟨some 61, none, [.t 11], .v (.mv)⟩,
          ⟨some 6, none, [.t 61], .v (.mv)⟩,
          ⟨some 7, none, [.c (.pv (.bool true))], .v (.mv)⟩] [6, 7])
        .ret)))))), none, false⟩

/- slices.Clip[[]typedholes/api.Entry,typedholes/api.Entry] -/
def g209 : AFunc := ⟨1, 9, [.t 2],
  (.seq
   (.reg [⟨some 2, none, [.c (.clp [])], .v (.mv)⟩] [0])
   (.seq
    (.reg [⟨some 3, none, [.t 0], .v (.mv)⟩,
      ⟨some 4, none, [.t 0], .v (.mv)⟩,
      ⟨some 5, none, [.t 4], .v (.len)⟩,
      ⟨some 6, none, [.t 0], .v (.mv)⟩,
      ⟨some 7, none, [.t 6], .v (.len)⟩,
      ⟨some 8, none, [.t 3, .t 5, .t 7], .v (.slice false 7 false true true)⟩,
      ⟨some 2, none, [.t 8], .v (.mv)⟩] [2])
    .ret)), none, false⟩

/- slices.Backward[[]typedholes/api.Entry,typedholes/api.Entry] -/
def g210 : AFunc := ⟨1, 4, [.t 2],
  (.seq
   (.reg [⟨some 1, none, [.t 0], .boxS 1⟩,
     ⟨some 2, none, [.c (.nilp)], .v (.mv)⟩] [1])
   (.seq
    (.reg [⟨some 3, none, [.t 1], .v (.mkfn 233)⟩,
      ⟨some 2, none, [.t 3], .v (.mv)⟩] [2])
    .ret)), none, false⟩

/- slices.ContainsFunc[[]typedholes/api.Entry,typedholes/api.Entry] -/
def g211 : AFunc := ⟨2, 9, [.t 4],
  (.seq
   (.reg [⟨some 4, none, [.c (.pv (.bool false))], .v (.mv)⟩] [0, 1])
   (.seq
    (.reg [⟨some 5, none, [.t 0], .v (.mv)⟩,
      ⟨some 6, none, [.t 1], .v (.mv)⟩,
      ⟨some 7, none, [.t 5, .t 6], .callI 234 []⟩,
      ⟨some 8, none, [.t 7, .c (.pv (.int .i64 0))], .v (.bin .geq)⟩,
      ⟨some 4, none, [.t 8], .v (.mv)⟩] [4])
    .ret)), none, false⟩

/- typedholes/environ.Seen$1 -/
def g212 : AFunc := ⟨1, 9, [.t 3],
  (.seq
   (.reg [⟨some 2, none, [.t 0], .box 2 7⟩,
     ⟨some 3, none, [.c (.pv (.bool false))], .v (.mv)⟩] [1, 2])
   (.seq
    (.reg [⟨some 4, none, [.t 2], .v (.faddr 0)⟩,
      ⟨some 5, none, [.t 4], .loadL 2 0 1 false⟩,
      ⟨some 6, none, [.t 1], .v (.faddr 0)⟩,
      ⟨some 7, none, [.t 6], .loadS 1 false⟩,
      ⟨some 8, none, [.t 5, .t 7], .v (.bin .eql)⟩,
      ⟨some 3, none, [.t 8], .v (.mv)⟩] [3])
    .ret)), none, false⟩

/- slices.Contains[[]string,string] -/
def g214 : AFunc := ⟨2, 9, [.t 4],
  (.seq
   (.reg [⟨some 4, none, [.c (.pv (.bool false))], .v (.mv)⟩] [0, 1])
   (.seq
    (.reg [⟨some 5, none, [.t 0], .v (.mv)⟩,
      ⟨some 6, none, [.t 1], .v (.mv)⟩,
      ⟨some 7, none, [.t 5, .t 6], .callP 223⟩,
      ⟨some 8, none, [.t 7, .c (.pv (.int .i64 0))], .v (.bin .geq)⟩,
      ⟨some 4, none, [.t 8], .v (.mv)⟩] [4])
    .ret)), none, false⟩

/- typedholes/types.Con -/
def g218 : AFunc := ⟨2, 9, [.c 4 5 true],
  (.seq
   (.reg [⟨some 4, none, [], .alloc 4 [.int .i64 0, .str [], .int .i64 0, .int .i64 0, .lst []]⟩] [0, 1, 4])
   (.seq
    (.reg [⟨some 5, none, [.t 0], .v (.mv)⟩,
      ⟨some 6, none, [.t 1], .v (.mv)⟩,
      ⟨some 7, none, [.t 6], .clone 5 64⟩,
      ⟨some 8, none, [.c (.pv (.int .i64 4)), .t 5, .t 7], .v (.build [.int .i64 0, .str [], .int .i64 0, .int .i64 0, .lst []] [(0, 1), (1, 1), (4, 1)])⟩,
      ⟨none, none, [.t 4, .t 8], .storeL 4 0 5⟩] [4])
    .ret)), none, false⟩

/- slices.Backward[[]typedholes/api.Type,typedholes/api.Type] -/
def g219 : AFunc := ⟨1, 4, [.t 2],
  (.seq
   (.reg [⟨some 1, none, [.t 0], .boxS 1⟩,
     ⟨some 2, none, [.c (.nilp)], .v (.mv)⟩] [1])
   (.seq
    (.reg [⟨some 3, none, [.t 1], .v (.mkfn 236)⟩,
      ⟨some 2, none, [.t 3], .v (.mv)⟩] [2])
    .ret)), none, false⟩

/- typedholes/types.Arrow -/
def g220 : AFunc := ⟨2, 9, [.c 4 5 true],
  (.seq
   (.reg [⟨some 2, none, [.t 0], .box 2 5⟩,
     ⟨some 3, none, [.t 1], .box 3 5⟩,
     ⟨some 4, none, [], .alloc 4 [.int .i64 0, .str [], .int .i64 0, .int .i64 0, .lst []]⟩] [2, 3, 4])
   (.seq
    (.reg [⟨some 5, none, [.t 2], .loadL 2 0 5 true⟩,
      ⟨some 6, none, [.t 3], .loadL 3 0 5 true⟩,
      ⟨some 7, none, [.t 5, .t 6], .v (.bslice 5)⟩,
      ⟨some 8, none, [.c (.pv (.str [45, 62])), .t 7], .callP 218⟩,
      ⟨none, none, [.t 4, .t 8], .storeL 4 0 5⟩] [4])
    .ret)), none, false⟩

/- slices.Index[[]string,string] -/
def g223B0 : ACode :=
  (.seq
   (.reg [⟨some 9, none, [.t 8, .t 7], .v (.bin .lss)⟩] [0, 1, 7, 8, 9])
   (.seq
    (.cond (.t 9)
     .skip
     (.exit 0))
    (.seq
     (.block 1
      (.seq
       (.reg [⟨some 10, none, [.t 8], .v (.mv)⟩,
         ⟨some 5, none, [.t 10], .v (.mv)⟩] [0, 1, 5, 7, 8])
       (.seq
        (.reg [⟨some 11, none, [.t 1], .v (.mv)⟩,
          ⟨some 12, none, [.t 0], .v (.mv)⟩,
          ⟨some 13, none, [.t 5], .v (.mv)⟩,
          ⟨some 14, none, [.t 12, .t 13], .v (.iaddr 1)⟩,
          ⟨some 15, none, [.t 14], .v (.loadE 1 false)⟩,
          ⟨some 16, none, [.t 11, .t 15], .v (.bin .eql)⟩] [0, 1, 5, 7, 8, 16])
        (.cond (.t 16)
         (.seq
          (.reg [⟨some 17, none, [.t 5], .v (.mv)⟩,
            ⟨some 4, none, [.t 17], .v (.mv)⟩] [4])
          .ret)
         .skip))))
     (.reg [⟨some 18, none, [.t 8, .c (.pv (.int .i64 1))], .v (.bin .add)⟩,
       ⟨some 8, none, [.t 18], .v (.mv)⟩] [0, 1, 7, 8]))))
def g223L0 : ACode := .loop [0, 1, 7, 8] g223B0
theorem g223L0_eq {AP : Nat → Option AFunc} {st : St} : cl AP g223L0 st = after (cl AP g223L0) (cl AP g223B0 (norm (restrict [0, 1, 7, 8] st))) := cl_loop
def g223 : AFunc := ⟨2, 19, [.t 4],
  (.seq
   (.reg [⟨some 4, none, [.c (.pv (.int .i64 0))], .v (.mv)⟩] [0, 1])
   (.seq
    (.seq
     (.reg [⟨some 6, none, [.t 0], .v (.mv)⟩,
       ⟨some 7, none, [.t 6], .v (.len)⟩,
       ⟨some 8, none, [.c (.pv (.int .i64 0))], .v (.mv)⟩] [0, 1, 7, 8])
     (.block 0
      g223L0))
    (.seq
     (.reg [⟨some 4, none, [.c (.pv (.int .i64 (-1)))], .v (.mv)⟩] [4])
     .ret))), none, false⟩

/- typedholes/scheme.Free -/
def g224B0 : ACode :=
  (.seq
   (.reg [⟨some 12, none, [.t 11, .t 10], .v (.bin .lss)⟩] [3, 9, 10, 11, 12])
   (.seq
    (.cond (.t 12)
     .skip
     (.exit 0))
    (.seq
     (.block 1
      (.seq
       (.reg [⟨some 13, none, [.t 11], .v (.mv)⟩,
         ⟨some 14, none, [.t 9, .t 11], .v (.iaddr 6)⟩,
         ⟨some 15, none, [.t 14], .v (.loadE 6 true)⟩,
         ⟨some 5, none, [], .alloc 5 [.int .i64 0, .int .i64 0, .str [], .int .i64 0, .int .i64 0, .lst []]⟩,
         ⟨some 4, none, [.t 13], .v (.mv)⟩,
         ⟨none, none, [.t 5, .t 15], .storeL 5 0 6⟩] [3, 4, 5, 9, 10, 11])
       (.reg [⟨some 16, none, [.t 3], .v (.mv)⟩,
         ⟨some 17, none, [.t 4], .v (.mv)⟩,
         ⟨some 18, none, [.t 5], .v (.faddr 1)⟩,
         ⟨some 19, none, [.t 18], .loadL 5 1 5 true⟩,
         ⟨some 20, none, [.t 16, .t 17], .v (.iaddr 5)⟩,
         ⟨none, none, [.t 20, .t 19], .storeS 5⟩] [3, 9, 10, 11])))
     (.reg [⟨some 21, none, [.t 11, .c (.pv (.int .i64 1))], .v (.bin .add)⟩,
       ⟨some 11, none, [.t 21], .v (.mv)⟩] [3, 9, 10, 11]))))
def g224L0 : ACode := .loop [3, 9, 10, 11] g224B0
theorem g224L0_eq {AP : Nat → Option AFunc} {st : St} : cl AP g224L0 st = after (cl AP g224L0) (cl AP g224B0 (norm (restrict [3, 9, 10, 11] st))) := cl_loop
def g224 : AFunc := ⟨1, 24, [.t 2],
  (.seq
   (.reg [⟨some 2, none, [.c (.clp [])], .v (.mv)⟩] [0])
   (.seq
    (.reg [⟨some 6, none, [.t 0], .v (.mv)⟩,
      ⟨some 7, none, [.t 6], .v (.len)⟩,
      ⟨some 8, none, [.t 7, .t 7], .makeS 5 64 true [.int .i64 0, .str [], .int .i64 0, .int .i64 0, .lst []]⟩,
      ⟨some 3, none, [.t 8], .v (.mv)⟩] [0, 3])
    (.seq
     (.seq
      (.reg [⟨some 9, none, [.t 0], .v (.mv)⟩,
        ⟨some 10, none, [.t 9], .v (.len)⟩,
        ⟨some 11, none, [.c (.pv (.int .i64 0))], .v (.mv)⟩] [3, 9, 10, 11])
      (.block 0
       g224L0))
     (.seq
      (.seq
       (.frz [3])
       (.reg [⟨some 22, none, [.t 3], .v (.mv)⟩,
         ⟨some 23, none, [.t 22], .callI 55 []⟩,
         ⟨some 2, none, [.t 23], .v (.mv)⟩] [2]))
      .ret)))), none, false⟩

/- slices.IndexFunc[[]typedholes/api.Entry,typedholes/api.Entry] -/
def g234B0 : ACode :=
  (.seq
   (.reg [⟨some 9, none, [.t 8, .t 7], .v (.bin .lss)⟩] [0, 1, 7, 8, 9])
   (.seq
    (.cond (.t 9)
     .skip
     (.exit 0))
    (.seq
     (.block 1
      (.seq
       (.reg [⟨some 10, none, [.t 8], .v (.mv)⟩,
         ⟨some 5, none, [.t 10], .v (.mv)⟩] [0, 1, 5, 7, 8])
       (.seq
        (.reg [⟨some 11, none, [.t 1], .v (.mv)⟩,
          ⟨some 12, none, [.t 0], .v (.mv)⟩,
          ⟨some 13, none, [.t 5], .v (.mv)⟩,
          ⟨some 14, none, [.t 12, .t 13], .v (.iaddr 7)⟩,
          ⟨some 15, none, [.t 14], .loadS 7 true⟩,
          ⟨some 16, none, [.t 11, .t 15], .callV⟩] [0, 1, 5, 7, 8, 16])
        (.cond (.t 16)
         (.seq
          (.reg [⟨some 17, none, [.t 5], .v (.mv)⟩,
            ⟨some 4, none, [.t 17], .v (.mv)⟩] [4])
          .ret)
         .skip))))
     (.reg [⟨some 18, none, [.t 8, .c (.pv (.int .i64 1))], .v (.bin .add)⟩,
       ⟨some 8, none, [.t 18], .v (.mv)⟩] [0, 1, 7, 8]))))
def g234L0 : ACode := .loop [0, 1, 7, 8] g234B0
theorem g234L0_eq {AP : Nat → Option AFunc} {st : St} : cl AP g234L0 st = after (cl AP g234L0) (cl AP g234B0 (norm (restrict [0, 1, 7, 8] st))) := cl_loop
def g234 : AFunc := ⟨2, 19, [.t 4],
  (.seq
   (.reg [⟨some 4, none, [.c (.pv (.int .i64 0))], .v (.mv)⟩] [0, 1])
   (.seq
    (.seq
     (.reg [⟨some 6, none, [.t 0], .v (.mv)⟩,
       ⟨some 7, none, [.t 6], .v (.len)⟩,
       ⟨some 8, none, [.c (.pv (.int .i64 0))], .v (.mv)⟩] [0, 1, 7, 8])
     (.block 0
      g234L0))
    (.seq
     (.reg [⟨some 4, none, [.c (.pv (.int .i64 (-1)))], .v (.mv)⟩] [4])
     .ret))), none, false⟩

/- typedholes/typedholeslaw10.ScopeSound -/
def g400B0 : ACode :=
  (.seq
   (.seq
    (.reg [⟨some 48, none, [.t 13], .v (.mv)⟩,
      ⟨some 49, none, [.t 3], .v (.mv)⟩,
      ⟨some 50, none, [.t 49, .c (.pv (.int .i64 6))], .callP 26⟩,
      ⟨some 51, none, [.t 48, .t 50], .v (.bin .lss)⟩] [3, 9, 10, 11, 12, 13, 51])
    (.cond (.t 51)
     .skip
     (.exit 0)))
   (.seq
    (.block 1
     (.seq
      (.reg [⟨some 54, none, [.t 12], .loadL 12 0 11 true⟩,
        ⟨some 55, none, [.t 54], .callP 145⟩,
        ⟨some 14, none, [.t 55], .v (.mv)⟩] [3, 9, 10, 11, 12, 13, 14])
      (.seq
       (.seq
        (.reg [⟨some 56, none, [.t 14], .v (.mv)⟩,
          ⟨some 57, none, [.t 56], .v (.len)⟩,
          ⟨some 58, none, [.t 57, .c (.pv (.int .i64 0))], .v (.bin .eql)⟩] [3, 9, 10, 11, 12, 13, 14, 58])
        (.cond (.t 58)
         (.exit 0)
         .skip))
       (.seq
        (.reg [⟨some 59, none, [.t 3], .v (.mv)⟩,
          ⟨some 60, none, [.t 13], .v (.mv)⟩,
          ⟨some 61, none, [.c (.pv (.int .i64 3)), .t 60], .v (.bin .mul)⟩,
          ⟨some 62, none, [.t 59, .t 61], .v (.bin .add)⟩,
          ⟨some 63, none, [.t 14], .v (.mv)⟩,
          ⟨some 64, none, [.t 63], .v (.len)⟩,
          ⟨some 65, none, [.t 62, .t 64], .callP 26⟩,
          ⟨some 15, none, [.t 65], .v (.mv)⟩] [3, 9, 10, 11, 12, 13, 14, 15])
        (.reg [⟨some 66, none, [.t 11], .v (.mv)⟩,
          ⟨some 67, none, [.t 15], .v (.mv)⟩,
          ⟨some 68, none, [.t 67], .v (.bslice 1)⟩,
          ⟨some 69, none, [.t 66, .t 68], .append 1 8⟩,
          ⟨some 70, none, [.t 14], .v (.mv)⟩,
          ⟨some 71, none, [.t 15], .v (.mv)⟩,
          ⟨some 72, none, [.t 70, .t 71], .v (.iaddr 11)⟩,
          ⟨some 73, none, [.t 72], .v (.loadE 11 true)⟩,
          ⟨some 11, none, [.t 69], .v (.mv)⟩,
          ⟨none, none, [.t 12, .t 73], .storeL 12 0 11⟩] [3, 9, 10, 11, 12, 13])))))
    (.reg [⟨some 52, none, [.t 13], .v (.mv)⟩,
      ⟨some 53, none, [.t 52, .c (.pv (.int .i64 1))], .v (.bin .add)⟩,
      ⟨some 13, none, [.t 53], .v (.mv)⟩] [3, 9, 10, 11, 12, 13])))
def g400L0 : ACode := .loop [3, 9, 10, 11, 12, 13] g400B0
theorem g400L0_eq {AP : Nat → Option AFunc} {st : St} : cl AP g400L0 st = after (cl AP g400L0) (cl AP g400B0 (norm (restrict [3, 9, 10, 11, 12, 13] st))) := cl_loop
def g400B1 : ACode :=
  (.seq
   (.seq
    (.reg [⟨some 78, none, [.t 17], .v (.mv)⟩,
      ⟨some 79, none, [.t 9], .v (.faddr 1)⟩,
      ⟨some 80, none, [.t 79], .loadL 9 1 1 false⟩,
      ⟨some 81, none, [.t 80], .v (.len)⟩,
      ⟨some 82, none, [.t 78, .t 81], .v (.bin .lss)⟩] [9, 12, 16, 17, 82])
    (.cond (.t 82)
     .skip
     (.exit 2)))
   (.seq
    (.block 3
     (.reg [⟨some 85, none, [.t 16], .v (.mv)⟩,
       ⟨some 86, none, [.t 9], .v (.faddr 1)⟩,
       ⟨some 87, none, [.t 86], .loadL 9 1 1 false⟩,
       ⟨some 88, none, [.t 17], .v (.mv)⟩,
       ⟨some 89, none, [.t 87, .t 88], .v (.iaddr 20)⟩,
       ⟨some 90, none, [.t 89], .v (.faddr 2)⟩,
       ⟨some 91, none, [.t 90], .v (.loadE 1 false)⟩,
       ⟨some 92, none, [.t 91], .v (.bslice 1)⟩,
       ⟨some 93, none, [.t 85, .t 92], .append 1 16⟩,
       ⟨some 16, none, [.t 93], .v (.mv)⟩] [9, 12, 16, 17]))
    (.reg [⟨some 83, none, [.t 17], .v (.mv)⟩,
      ⟨some 84, none, [.t 83, .c (.pv (.int .i64 1))], .v (.bin .add)⟩,
      ⟨some 17, none, [.t 84], .v (.mv)⟩] [9, 12, 16, 17])))
def g400L1 : ACode := .loop [9, 12, 16, 17] g400B1
theorem g400L1_eq {AP : Nat → Option AFunc} {st : St} : cl AP g400L1 st = after (cl AP g400L1) (cl AP g400B1 (norm (restrict [9, 12, 16, 17] st))) := cl_loop
def g400 : AFunc := ⟨4, 101, [.t 8],
  (.seq
   (.reg [⟨some 8, none, [.c (.pv (.bool false))], .v (.mv)⟩] [0, 1, 2, 3])
   (.seq
    (.seq
     (.reg [⟨some 18, none, [], .callP 401⟩,
       ⟨some 19, none, [.t 18], .v (.un .not)⟩] [0, 1, 2, 3, 19])
     (.cond (.t 19)
      (.seq
       (.reg [⟨some 8, none, [.c (.pv (.bool false))], .v (.mv)⟩] [8])
       .ret)
      .skip))
    (.seq
     (.seq
      (.reg [⟨some 20, none, [.t 1], .v (.mv)⟩,
        ⟨some 21, none, [.t 20], .callP 15⟩,
        ⟨some 22, none, [.t 21], .v (.un .not)⟩] [0, 1, 2, 3, 22])
      (.cond (.t 22)
       (.seq
        (.reg [⟨some 8, none, [.c (.pv (.bool true))], .v (.mv)⟩] [8])
        .ret)
       .skip))
     (.seq
      (.reg [⟨some 23, none, [.t 0], .v (.mv)⟩,
        ⟨some 24, none, [.t 1], .v (.mv)⟩,
        ⟨some 25, none, [.t 2], .v (.mv)⟩,
        ⟨some 26, none, [.t 23, .t 24, .t 25], .callP 310⟩,
        ⟨some 9, none, [], .alloc 9 [.lst [], .lst []]⟩,
        ⟨none, none, [.t 9, .t 26], .storeL 9 0 2⟩] [3, 9])
      (.seq
       (.seq
        (.reg [⟨some 27, none, [.t 9], .loadL 9 0 2 true⟩,
          ⟨some 28, none, [.t 27], .callP 403⟩,
          ⟨some 29, none, [.t 28], .v (.field 0 1 false)⟩,
          ⟨some 30, none, [.t 29, .c (.pv (.int .i64 0))], .v (.bin .neq)⟩,
          ⟨some 31, none, [.t 30], .v (.mv)⟩,
          ⟨some 32, some (31, false), [.t 9], .v (.faddr 1)⟩,
          ⟨some 33, some (31, false), [.t 32], .loadL 9 1 1 false⟩,
          ⟨some 34, some (31, false), [.t 33], .v (.len)⟩,
          ⟨some 35, some (31, false), [.t 34, .c (.pv (.int .i64 0))], .v (.bin .eql)⟩,
          ⟨some 36, none, [.t 31, .c (.pv (.bool true)), .t 35], .v (.pick)⟩] [3, 9, 36])
        (.cond (.t 36)
         (.seq
          (.reg [⟨some 8, none, [.c (.pv (.bool true))], .v (.mv)⟩] [8])
          .ret)
         .skip))
       (.seq
        (.reg [⟨some 37, none, [.t 9], .v (.faddr 1)⟩,
          ⟨some 38, none, [.t 37], .loadL 9 1 1 false⟩,
          ⟨some 39, none, [.t 3], .v (.mv)⟩,
          ⟨some 40, none, [.t 9], .v (.faddr 1)⟩,
          ⟨some 41, none, [.t 40], .loadL 9 1 1 false⟩,
          ⟨some 42, none, [.t 41], .v (.len)⟩,
          ⟨some 43, none, [.t 39, .t 42], .callP 26⟩,
          ⟨some 44, none, [.t 38, .t 43], .v (.iaddr 20)⟩,
          ⟨some 45, none, [.t 44], .v (.loadE 20 true)⟩,
          ⟨some 10, none, [], .alloc 10 [.int .i64 0, .bool false, .str [], .bool false, .int .i64 0, .str [], .int .i64 0, .int .i64 0, .lst [], .int .i64 0, .int .i64 0, .str [], .int .i64 0, .lst [], .lst [], .int .i64 0, .str [], .int .i64 0, .int .i64 0, .lst []]⟩,
          ⟨none, none, [.t 10, .t 45], .storeL 10 0 20⟩] [3, 9, 10])
        (.seq
         (.reg [⟨some 11, none, [.c (.clp [])], .v (.mv)⟩] [3, 9, 10, 11])
         (.seq
          (.reg [⟨some 46, none, [.t 10], .v (.faddr 9)⟩,
            ⟨some 47, none, [.t 46], .loadL 10 9 11 true⟩,
            ⟨some 12, none, [], .alloc 12 [.int .i64 0, .int .i64 0, .str [], .int .i64 0, .lst [], .lst [], .int .i64 0, .str [], .int .i64 0, .int .i64 0, .lst []]⟩,
            ⟨none, none, [.t 12, .t 47], .storeL 12 0 11⟩] [3, 9, 10, 11, 12])
          (.seq
           (.seq
            (.reg [⟨some 13, none, [.c (.pv (.int .i64 0))], .v (.mv)⟩] [3, 9, 10, 11, 12, 13])
            (.block 0
             g400L0))
           (.seq
            (.reg [⟨some 74, none, [.t 10], .v (.faddr 9)⟩,
              ⟨some 75, none, [.t 74], .loadL 10 9 11 true⟩,
              ⟨some 76, none, [.t 11], .v (.mv)⟩,
              ⟨some 77, none, [.t 75, .t 76], .callI 404 []⟩,
              ⟨some 16, none, [.t 77], .v (.mv)⟩] [9, 12, 16])
            (.seq
             (.seq
              (.reg [⟨some 17, none, [.c (.pv (.int .i64 0))], .v (.mv)⟩] [9, 12, 16, 17])
              (.block 2
               g400L1))
             (.seq
              (.reg [⟨some 94, none, [.t 9], .v (.faddr 0)⟩,
                ⟨some 95, none, [.t 94], .loadL 9 0 1 false⟩,
                ⟨some 96, none, [.t 16], .v (.mv)⟩,
                ⟨some 97, none, [.t 12], .loadL 12 0 11 true⟩,
                ⟨some 98, none, [.t 95, .t 96, .t 97], .callP 405⟩,
                ⟨some 99, none, [.t 98], .v (.field 0 1 false)⟩,
                ⟨some 100, none, [.t 99, .c (.pv (.int .i64 0))], .v (.bin .eql)⟩,
                ⟨some 8, none, [.t 100], .v (.mv)⟩] [8])
              .ret)))))))))))), none, false⟩

/- typedholes/scope.Visible -/
def g404B1 : ACode :=
  (.seq
   (.reg [⟨some 31, none, [.t 30, .t 29], .v (.bin .lss)⟩] [2, 7, 9, 20, 21, 22, 28, 29, 30, 31])
   (.seq
    (.cond (.t 31)
     .skip
     (.exit 2))
    (.seq
     (.block 3
      (.seq
       (.reg [⟨some 32, none, [.t 28, .t 30], .v (.iaddr 1)⟩,
         ⟨some 33, none, [.t 32], .v (.loadE 1 false)⟩,
         ⟨some 11, none, [], .allocS [.str []]⟩,
         ⟨none, none, [.t 11, .t 33], .storeS 1⟩] [2, 7, 9, 11, 20, 21, 22, 28, 29, 30])
       (.seq
        (.reg [⟨some 34, none, [.t 7], .v (.mv)⟩,
          ⟨some 35, none, [.t 11], .v (.mkfn 413)⟩,
          ⟨some 36, none, [.t 34, .t 35], .callI 412 [0]⟩,
          ⟨some 7, none, [.t 36], .v (.mv)⟩] [2, 7, 9, 11, 20, 21, 22, 28, 29, 30])
        (.reg [⟨some 37, none, [.t 7], .v (.mv)⟩,
          ⟨some 38, none, [.t 11], .loadS 1 false⟩,
          ⟨some 39, none, [.t 38], .v (.bslice 1)⟩,
          ⟨some 40, none, [.t 37, .t 39], .appendS 1 16 false⟩,
          ⟨some 7, none, [.t 40], .v (.mv)⟩] [2, 7, 9, 20, 21, 22, 28, 29, 30]))))
     (.reg [⟨some 41, none, [.t 30, .c (.pv (.int .i64 1))], .v (.bin .add)⟩,
       ⟨some 30, none, [.t 41], .v (.mv)⟩] [2, 7, 9, 20, 21, 22, 28, 29, 30]))))
def g404L1 : ACode := .loop [2, 7, 9, 20, 21, 22, 28, 29, 30] g404B1
theorem g404L1_eq {AP : Nat → Option AFunc} {st : St} : cl AP g404L1 st = after (cl AP g404L1) (cl AP g404B1 (norm (restrict [2, 7, 9, 20, 21, 22, 28, 29, 30] st))) := cl_loop
def g404B0 : ACode :=
  (.seq
   (.reg [⟨some 23, none, [.t 22, .t 21], .v (.bin .lss)⟩] [2, 7, 20, 21, 22, 23])
   (.seq
    (.cond (.t 23)
     .skip
     (.exit 0))
    (.seq
     (.block 1
      (.seq
       (.reg [⟨some 24, none, [.t 20, .t 22], .v (.iaddr 1)⟩,
         ⟨some 25, none, [.t 24], .v (.loadE 1 false)⟩,
         ⟨some 9, none, [.t 25], .v (.mv)⟩] [2, 7, 9, 20, 21, 22])
       (.seq
        (.seq
         (.reg [⟨some 26, none, [.t 2], .loadL 2 0 11 true⟩,
           ⟨some 27, none, [.t 9], .v (.mv)⟩,
           ⟨some 28, none, [.t 26, .t 27], .callP 411⟩,
           ⟨some 29, none, [.t 28], .v (.len)⟩,
           ⟨some 30, none, [.c (.pv (.int .i64 0))], .v (.mv)⟩] [2, 7, 9, 20, 21, 22, 28, 29, 30])
         (.block 2
          g404L1))
        (.reg [⟨some 42, none, [.t 2], .loadL 2 0 11 true⟩,
          ⟨some 43, none, [.t 42], .callP 414⟩,
          ⟨some 44, none, [.t 9], .v (.mv)⟩,
          ⟨some 45, none, [.t 43, .t 44], .v (.iaddr 11)⟩,
          ⟨some 46, none, [.t 45], .v (.loadE 11 true)⟩,
          ⟨none, none, [.t 2, .t 46], .storeL 2 0 11⟩] [2, 7, 20, 21, 22]))))
     (.reg [⟨some 47, none, [.t 22, .c (.pv (.int .i64 1))], .v (.bin .add)⟩,
       ⟨some 22, none, [.t 47], .v (.mv)⟩] [2, 7, 20, 21, 22]))))
def g404L0 : ACode := .loop [2, 7, 20, 21, 22] g404B0
theorem g404L0_eq {AP : Nat → Option AFunc} {st : St} : cl AP g404L0 st = after (cl AP g404L0) (cl AP g404B0 (norm (restrict [2, 7, 20, 21, 22] st))) := cl_loop
def g404 : AFunc := ⟨2, 49, [.t 4],
  (.seq
   (.reg [⟨some 2, none, [.t 0], .box 2 11⟩,
     ⟨some 4, none, [.c (.clp [])], .v (.mv)⟩] [1, 2])
   (.seq
    (.seq
     (.reg [⟨some 13, none, [.t 2], .loadL 2 0 11 true⟩,
       ⟨some 14, none, [.t 1], .v (.mv)⟩,
       ⟨some 15, none, [.t 13, .t 14], .callP 410⟩,
       ⟨some 12, none, [.t 15], .v (.mv)⟩,
       ⟨some 16, none, [.t 12], .v (.ext 0)⟩,
       ⟨some 17, none, [.t 12], .v (.ext 1)⟩,
       ⟨some 5, none, [], .alloc 5 [.int .i64 0, .int .i64 0, .str [], .int .i64 0, .lst [], .lst [], .int .i64 0, .str [], .int .i64 0, .int .i64 0, .lst []]⟩,
       ⟨none, none, [.t 5, .t 16], .storeL 5 0 11⟩,
       ⟨some 6, none, [.t 17], .v (.mv)⟩] [1, 2, 6])
     (.seq
      (.reg [⟨some 18, none, [.t 6], .v (.mv)⟩,
        ⟨some 19, none, [.t 18], .v (.un .not)⟩] [1, 2, 19])
      (.cond (.t 19)
       (.seq
        (.reg [⟨some 4, none, [.c (.clp [])], .v (.mv)⟩] [4])
        .ret)
       .skip)))
    (.seq
     (.reg [⟨some 7, none, [.c (.clp [])], .v (.mv)⟩] [1, 2, 7])
     (.seq
      (.seq
       (.reg [⟨some 20, none, [.t 1], .v (.mv)⟩,
         ⟨some 21, none, [.t 20], .v (.len)⟩,
         ⟨some 22, none, [.c (.pv (.int .i64 0))], .v (.mv)⟩] [2, 7, 20, 21, 22])
       (.block 0
        g404L0))
      (.seq
       (.reg [⟨some 48, none, [.t 7], .v (.mv)⟩,
         ⟨some 4, none, [.t 48], .v (.mv)⟩] [4])
       .ret))))), none, false⟩

/- typedholes/scope.Arms -/
def g407 : AFunc := ⟨2, 14, [.t 4, .t 5],
  (.seq
   (.reg [⟨some 3, none, [.t 1], .boxS 1⟩,
     ⟨some 4, none, [.c (.pv (.int .i64 0))], .v (.mv)⟩,
     ⟨some 5, none, [.c (.pv (.bool false))], .v (.mv)⟩] [0, 3])
   (.seq
    (.reg [⟨some 7, none, [.t 0], .v (.mv)⟩,
      ⟨some 8, none, [.t 3], .v (.mkfn 417)⟩,
      ⟨some 9, none, [.t 7, .t 8], .callI 416 []⟩,
      ⟨some 6, none, [.t 9], .v (.mv)⟩] [6])
    (.seq
     (.reg [⟨some 10, none, [.t 6], .v (.mv)⟩,
       ⟨some 11, none, [.t 10, .c (.pv (.int .i64 0))], .v (.mx)⟩,
       ⟨some 12, none, [.t 6], .v (.mv)⟩,
       ⟨some 13, none, [.t 12, .c (.pv (.int .i64 0))], .v (.bin .geq)⟩,
       ⟨some 4, none, [.t 11], .v (.mv)⟩,
       ⟨some 5, none, [.t 13], .v (.mv)⟩] [4, 5])
     .ret))), none, false⟩


end Go.Ab
