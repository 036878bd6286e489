import Derived.Test.YtejloknaphfbeaaGreatAbEv
import Derived.Test.YtejloknaphfbeaaGreatCodeA
/-
  The program's functions in slim code, as a program of ours printed them; what they have to do with the given program is proved in the text Impl.
-/
namespace Go.Ab

/- typedholes/tree.At -/
def g410B0 : ACode :=
  (.seq
   (.reg [⟨some 12, none, [.t 11, .t 10], .v (.bin .lss)⟩] [2, 4, 9, 10, 11, 12])
   (.seq
    (.cond (.t 12)
     .skip
     (.exit 0))
    (.seq
     (.block 1
      (.seq
       (.reg [⟨some 13, none, [.t 9, .t 11], .v (.iaddr 1)⟩,
         ⟨some 14, none, [.t 13], .v (.loadE 1 false)⟩,
         ⟨some 7, none, [.t 14], .v (.mv)⟩] [2, 4, 7, 9, 10, 11])
       (.seq
        (.reg [⟨some 15, none, [.t 2], .loadL 2 0 11 true⟩,
          ⟨some 16, none, [.t 15], .callP 414⟩,
          ⟨some 8, none, [.t 16], .v (.mv)⟩] [2, 4, 7, 8, 9, 10, 11])
        (.seq
         (.seq
          (.reg [⟨some 17, none, [.t 7], .v (.mv)⟩,
            ⟨some 18, none, [.t 17, .c (.pv (.int .i64 0))], .v (.bin .lss)⟩,
            ⟨some 19, none, [.t 18], .v (.mv)⟩,
            ⟨some 20, some (19, false), [.t 7], .v (.mv)⟩,
            ⟨some 21, some (19, false), [.t 8], .v (.mv)⟩,
            ⟨some 22, some (19, false), [.t 21], .v (.len)⟩,
            ⟨some 23, some (19, false), [.t 20, .t 22], .v (.bin .geq)⟩,
            ⟨some 24, none, [.t 19, .c (.pv (.bool true)), .t 23], .v (.pick)⟩] [2, 4, 7, 8, 9, 10, 11, 24])
          (.cond (.t 24)
           (.seq
            (.reg [⟨some 25, none, [], .v (.build [.int .i64 0, .int .i64 0, .str [], .int .i64 0, .lst [], .lst [], .int .i64 0, .str [], .int .i64 0, .int .i64 0, .lst []] [])⟩,
              ⟨none, none, [.t 4, .t 25], .storeL 4 0 11⟩,
              ⟨some 5, none, [.c (.pv (.bool false))], .v (.mv)⟩] [4, 5])
            .ret)
           .skip))
         (.reg [⟨some 26, none, [.t 8], .v (.mv)⟩,
           ⟨some 27, none, [.t 7], .v (.mv)⟩,
           ⟨some 28, none, [.t 26, .t 27], .v (.iaddr 11)⟩,
           ⟨some 29, none, [.t 28], .v (.loadE 11 true)⟩,
           ⟨none, none, [.t 2, .t 29], .storeL 2 0 11⟩] [2, 4, 9, 10, 11])))))
     (.reg [⟨some 30, none, [.t 11, .c (.pv (.int .i64 1))], .v (.bin .add)⟩,
       ⟨some 11, none, [.t 30], .v (.mv)⟩] [2, 4, 9, 10, 11]))))
def g410L0 : ACode := .loop [2, 4, 9, 10, 11] g410B0
theorem g410L0_eq {AP : Nat → Option AFunc} {st : St} : cl AP g410L0 st = after (cl AP g410L0) (cl AP g410B0 (norm (restrict [2, 4, 9, 10, 11] st))) := cl_loop
def g410 : AFunc := ⟨2, 32, [.c 4 11 true, .t 5],
  (.seq
   (.reg [⟨some 2, none, [.t 0], .box 2 11⟩,
     ⟨some 4, none, [], .alloc 4 [.int .i64 0, .int .i64 0, .str [], .int .i64 0, .lst [], .lst [], .int .i64 0, .str [], .int .i64 0, .int .i64 0, .lst []]⟩,
     ⟨some 5, none, [.c (.pv (.bool false))], .v (.mv)⟩] [1, 2, 4])
   (.seq
    (.seq
     (.reg [⟨some 9, none, [.t 1], .v (.mv)⟩,
       ⟨some 10, none, [.t 9], .v (.len)⟩,
       ⟨some 11, none, [.c (.pv (.int .i64 0))], .v (.mv)⟩] [2, 4, 9, 10, 11])
     (.block 0
      g410L0))
    (.seq
     (.reg [⟨some 31, none, [.t 2], .loadL 2 0 11 true⟩,
       ⟨none, none, [.t 4, .t 31], .storeL 4 0 11⟩,
       ⟨some 5, none, [.c (.pv (.bool true))], .v (.mv)⟩] [4, 5])
     .ret))), none, false⟩

/- typedholes/scope.bound -/
def g411 : AFunc := ⟨2, 37, [.t 4],
  (.seq
   (.reg [⟨some 2, none, [.t 0], .box 2 11⟩,
     ⟨some 4, none, [.c (.clp [])], .v (.mv)⟩] [1, 2])
   (.seq
    (.seq
     (.reg [⟨some 5, none, [.t 2], .v (.faddr 0)⟩,
       ⟨some 6, none, [.t 5], .loadL 2 0 1 false⟩] [1, 2, 6])
     (.block 0
      (.seq
       (.seq
        (.reg [⟨some 8, none, [.t 6, .c (.pv (.int .i64 4))], .v (.bin .eql)⟩,
          ⟨some 7, none, [.t 8], .v (.mv)⟩] [1, 2, 6, 7])
        (.cond (.t 7)
         .skip
         (.reg [⟨some 9, none, [.t 6, .c (.pv (.int .i64 7))], .v (.bin .eql)⟩,
           ⟨some 7, none, [.t 9], .v (.mv)⟩] [1, 2, 6, 7])))
       (.cond (.t 7)
        (.seq
         (.reg [⟨some 10, none, [.t 2], .v (.faddr 2)⟩,
           ⟨some 11, none, [.t 10], .loadL 2 2 1 false⟩,
           ⟨some 12, none, [.t 11], .v (.bslice 1)⟩,
           ⟨some 4, none, [.t 12], .v (.mv)⟩] [4])
         .ret)
        (.seq
         (.reg [⟨some 14, none, [.t 6, .c (.pv (.int .i64 6))], .v (.bin .eql)⟩,
           ⟨some 13, none, [.t 14], .v (.mv)⟩] [1, 2, 6, 13])
         (.cond (.t 13)
          (.seq
           (.reg [⟨some 15, none, [.t 1], .v (.mv)⟩,
             ⟨some 16, none, [.t 15, .c (.pv (.int .i64 1))], .v (.bin .eql)⟩] [2, 16])
           (.cond (.t 16)
            (.seq
             (.reg [⟨some 17, none, [.t 2], .v (.faddr 2)⟩,
               ⟨some 18, none, [.t 17], .loadL 2 2 1 false⟩,
               ⟨some 19, none, [.t 18], .v (.bslice 1)⟩,
               ⟨some 4, none, [.t 19], .v (.mv)⟩] [4])
             .ret)
            .skip))
          (.seq
           (.reg [⟨some 21, none, [.t 6, .c (.pv (.int .i64 8))], .v (.bin .eql)⟩,
             ⟨some 20, none, [.t 21], .v (.mv)⟩] [1, 2, 20])
           (.cond (.t 20)
            (.seq
             (.reg [⟨some 22, none, [.t 1], .v (.mv)⟩,
               ⟨some 23, none, [.t 2], .v (.faddr 4)⟩,
               ⟨some 24, none, [.t 23], .loadL 2 4 1 false⟩,
               ⟨some 25, none, [.t 24], .v (.len)⟩,
               ⟨some 26, none, [.t 22, .t 25], .v (.bin .geq)⟩] [1, 2, 26])
             (.cond (.t 26)
              (.seq
               (.reg [⟨some 27, none, [.t 2], .v (.faddr 5)⟩,
                 ⟨some 28, none, [.t 27], .loadL 2 5 1 false⟩,
                 ⟨some 29, none, [.t 1], .v (.mv)⟩,
                 ⟨some 30, none, [.t 2], .v (.faddr 4)⟩,
                 ⟨some 31, none, [.t 30], .loadL 2 4 1 false⟩,
                 ⟨some 32, none, [.t 31], .v (.len)⟩,
                 ⟨some 33, none, [.t 29, .t 32], .v (.bin .sub)⟩,
                 ⟨some 34, none, [.t 28, .t 33], .v (.iaddr 14)⟩,
                 ⟨some 35, none, [.t 34], .v (.faddr 2)⟩,
                 ⟨some 36, none, [.t 35], .v (.loadE 1 false)⟩,
                 ⟨some 4, none, [.t 36], .v (.mv)⟩] [4])
               .ret)
              .skip))
            .skip))))))))
    (.seq
     (.reg [⟨some 4, none, [.c (.clp [])], .v (.mv)⟩] [4])
     .ret))), none, false⟩

/- slices.DeleteFunc[[]string,string] -/
def g412B0 : ACode :=
  (.seq
   (.seq
    (.reg [⟨some 16, none, [.t 6], .v (.mv)⟩,
      ⟨some 17, none, [.t 0], .v (.mv)⟩,
      ⟨some 18, none, [.t 17], .v (.len)⟩,
      ⟨some 19, none, [.t 16, .t 18], .v (.bin .lss)⟩] [0, 1, 5, 6, 19])
    (.cond (.t 19)
     .skip
     (.exit 0)))
   (.seq
    (.block 1
     (.seq
      (.reg [⟨some 22, none, [.t 0], .v (.mv)⟩,
        ⟨some 23, none, [.t 6], .v (.mv)⟩,
        ⟨some 24, none, [.t 22, .t 23], .v (.iaddr 1)⟩,
        ⟨some 25, none, [.t 24], .loadS 1 false⟩,
        ⟨some 7, none, [.t 25], .v (.mv)⟩] [0, 1, 5, 6, 7])
      (.seq
       (.reg [⟨some 26, none, [.t 1], .v (.mv)⟩,
         ⟨some 27, none, [.t 7], .v (.mv)⟩,
         ⟨some 28, none, [.t 26, .t 27], .callV⟩,
         ⟨some 29, none, [.t 28], .v (.un .not)⟩] [0, 1, 5, 6, 7, 29])
       (.cond (.t 29)
        (.seq
         (.reg [⟨some 30, none, [.t 0], .v (.mv)⟩,
           ⟨some 31, none, [.t 5], .v (.mv)⟩,
           ⟨some 32, none, [.t 7], .v (.mv)⟩,
           ⟨some 33, none, [.t 30, .t 31], .v (.iaddr 1)⟩,
           ⟨none, none, [.t 33, .t 32], .storeS 1⟩] [0, 1, 5, 6])
         (.reg [⟨some 34, none, [.t 5], .v (.mv)⟩,
           ⟨some 35, none, [.t 34, .c (.pv (.int .i64 1))], .v (.bin .add)⟩,
           ⟨some 5, none, [.t 35], .v (.mv)⟩] [0, 1, 5, 6]))
        .skip))))
    (.reg [⟨some 20, none, [.t 6], .v (.mv)⟩,
      ⟨some 21, none, [.t 20, .c (.pv (.int .i64 1))], .v (.bin .add)⟩,
      ⟨some 6, none, [.t 21], .v (.mv)⟩] [0, 1, 5, 6])))
def g412L0 : ACode := .loop [0, 1, 5, 6] g412B0
theorem g412L0_eq {AP : Nat → Option AFunc} {st : St} : cl AP g412L0 st = after (cl AP g412L0) (cl AP g412B0 (norm (restrict [0, 1, 5, 6] st))) := cl_loop
def g412 : AFunc := ⟨2, 42, [.t 4],
  (.seq
   (.reg [⟨some 4, none, [.c (.clp [])], .v (.mv)⟩] [0, 1])
   (.seq
    (.reg [⟨some 8, none, [.t 0], .v (.mv)⟩,
      ⟨some 9, none, [.t 1], .v (.mv)⟩,
      ⟨some 10, none, [.t 8, .t 9], .callI 421 []⟩,
      ⟨some 5, none, [.t 10], .v (.mv)⟩] [0, 1, 5])
    (.seq
     (.seq
      (.reg [⟨some 11, none, [.t 5], .v (.mv)⟩,
        ⟨some 12, none, [.t 11, .c (.pv (.int .i64 (-1)))], .v (.bin .eql)⟩] [0, 1, 5, 12])
      (.cond (.t 12)
       (.seq
        (.reg [⟨some 13, none, [.t 0], .v (.mv)⟩,
          ⟨some 4, none, [.t 13], .v (.mv)⟩] [4])
        .ret)
       .skip))
     (.seq
      (.seq
       (.reg [⟨some 14, none, [.t 5], .v (.mv)⟩,
         ⟨some 15, none, [.t 14, .c (.pv (.int .i64 1))], .v (.bin .add)⟩,
         ⟨some 6, none, [.t 15], .v (.mv)⟩] [0, 1, 5, 6])
       (.block 0
        g412L0))
      (.seq
       (.reg [⟨some 36, none, [.t 0], .v (.mv)⟩,
         ⟨some 37, none, [.t 5], .v (.mv)⟩,
         ⟨some 38, none, [.t 36, .t 37], .v (.sliceH 1 true false)⟩,
         ⟨none, none, [.t 38], .clearS 1 [.str []]⟩] [0, 5])
       (.seq
        (.reg [⟨some 39, none, [.t 0], .v (.mv)⟩,
          ⟨some 40, none, [.t 5], .v (.mv)⟩,
          ⟨some 41, none, [.t 39, .t 40], .v (.sliceH 1 false true)⟩,
          ⟨some 4, none, [.t 41], .v (.mv)⟩] [4])
        .ret)))))), none, true⟩

/- typedholes/scope.Visible$1 -/
def g413 : AFunc := ⟨1, 7, [.t 3],
  (.seq
   (.reg [⟨some 3, none, [.c (.pv (.bool false))], .v (.mv)⟩] [0, 1])
   (.seq
    (.reg [⟨some 4, none, [.t 0], .v (.mv)⟩,
      ⟨some 5, none, [.t 1], .loadS 1 false⟩,
      ⟨some 6, none, [.t 4, .t 5], .v (.bin .eql)⟩,
      ⟨some 3, none, [.t 6], .v (.mv)⟩] [3])
    .ret)), none, false⟩

/- typedholes/tree.Children -/
def g414B0 : ACode :=
  (.seq
   (.reg [⟨some 13, none, [.t 12, .t 11], .v (.bin .lss)⟩] [3, 10, 11, 12, 13])
   (.seq
    (.cond (.t 13)
     .skip
     (.exit 0))
    (.seq
     (.block 1
      (.seq
       (.reg [⟨some 14, none, [.t 10, .t 12], .v (.iaddr 14)⟩,
         ⟨some 15, none, [.t 14], .v (.loadE 14 true)⟩,
         ⟨some 5, none, [], .alloc 5 [.int .i64 0, .str [], .lst [], .int .i64 0, .int .i64 0, .str [], .int .i64 0, .lst [], .lst [], .int .i64 0, .str [], .int .i64 0, .int .i64 0, .lst []]⟩,
         ⟨none, none, [.t 5, .t 15], .storeL 5 0 14⟩] [3, 5, 10, 11, 12])
       (.reg [⟨some 16, none, [.t 3], .v (.mv)⟩,
         ⟨some 17, none, [.t 5], .v (.faddr 3)⟩,
         ⟨some 18, none, [.t 17], .loadL 5 3 11 true⟩,
         ⟨some 19, none, [.t 18], .v (.bslice 11)⟩,
         ⟨some 20, none, [.t 16, .t 19], .append 11 152⟩,
         ⟨some 3, none, [.t 20], .v (.mv)⟩] [3, 10, 11, 12])))
     (.reg [⟨some 21, none, [.t 12, .c (.pv (.int .i64 1))], .v (.bin .add)⟩,
       ⟨some 12, none, [.t 21], .v (.mv)⟩] [3, 10, 11, 12]))))
def g414L0 : ACode := .loop [3, 10, 11, 12] g414B0
theorem g414L0_eq {AP : Nat → Option AFunc} {st : St} : cl AP g414L0 st = after (cl AP g414L0) (cl AP g414B0 (norm (restrict [3, 10, 11, 12] st))) := cl_loop
def g414 : AFunc := ⟨1, 23, [.t 2],
  (.seq
   (.reg [⟨some 1, none, [.t 0], .box 1 11⟩,
     ⟨some 2, none, [.c (.clp [])], .v (.mv)⟩] [1])
   (.seq
    (.reg [⟨some 6, none, [.t 1], .v (.faddr 4)⟩,
      ⟨some 7, none, [.t 6], .loadL 1 4 1 false⟩,
      ⟨some 8, none, [.t 7], .clone 11 152⟩,
      ⟨some 3, none, [.t 8], .v (.mv)⟩] [1, 3])
    (.seq
     (.seq
      (.reg [⟨some 9, none, [.t 1], .v (.faddr 5)⟩,
        ⟨some 10, none, [.t 9], .loadL 1 5 1 false⟩,
        ⟨some 11, none, [.t 10], .v (.len)⟩,
        ⟨some 12, none, [.c (.pv (.int .i64 0))], .v (.mv)⟩] [3, 10, 11, 12])
      (.block 0
       g414L0))
     (.seq
      (.reg [⟨some 22, none, [.t 3], .v (.mv)⟩,
        ⟨some 2, none, [.t 22], .v (.mv)⟩] [2])
      .ret)))), none, false⟩

/- slices.IndexFunc[[]typedholes/api.Data,typedholes/api.Data] -/
def g416B0 : ACode :=
  (.seq
   (.reg [⟨some 9, none, [.t 8, .t 7], .v (.bin .lss)⟩] [0, 1, 7, 8, 9])
   (.seq
    (.cond (.t 9)
     .skip
     (.exit 0))
    (.seq
     (.block 1
      (.seq
       (.reg [⟨some 10, none, [.t 8], .v (.mv)⟩,
         ⟨some 5, none, [.t 10], .v (.mv)⟩] [0, 1, 5, 7, 8])
       (.seq
        (.reg [⟨some 11, none, [.t 1], .v (.mv)⟩,
          ⟨some 12, none, [.t 0], .v (.mv)⟩,
          ⟨some 13, none, [.t 5], .v (.mv)⟩,
          ⟨some 14, none, [.t 12, .t 13], .v (.iaddr 4)⟩,
          ⟨some 15, none, [.t 14], .loadS 4 true⟩,
          ⟨some 16, none, [.t 11, .t 15], .callV⟩] [0, 1, 5, 7, 8, 16])
        (.cond (.t 16)
         (.seq
          (.reg [⟨some 17, none, [.t 5], .v (.mv)⟩,
            ⟨some 4, none, [.t 17], .v (.mv)⟩] [4])
          .ret)
         .skip))))
     (.reg [⟨some 18, none, [.t 8, .c (.pv (.int .i64 1))], .v (.bin .add)⟩,
       ⟨some 8, none, [.t 18], .v (.mv)⟩] [0, 1, 7, 8]))))
def g416L0 : ACode := .loop [0, 1, 7, 8] g416B0
theorem g416L0_eq {AP : Nat → Option AFunc} {st : St} : cl AP g416L0 st = after (cl AP g416L0) (cl AP g416B0 (norm (restrict [0, 1, 7, 8] st))) := cl_loop
def g416 : AFunc := ⟨2, 19, [.t 4],
  (.seq
   (.reg [⟨some 4, none, [.c (.pv (.int .i64 0))], .v (.mv)⟩] [0, 1])
   (.seq
    (.seq
     (.reg [⟨some 6, none, [.t 0], .v (.mv)⟩,
       ⟨some 7, none, [.t 6], .v (.len)⟩,
       ⟨some 8, none, [.c (.pv (.int .i64 0))], .v (.mv)⟩] [0, 1, 7, 8])
     (.block 0
      g416L0))
    (.seq
     (.reg [⟨some 4, none, [.c (.pv (.int .i64 (-1)))], .v (.mv)⟩] [4])
     .ret))), none, false⟩

/- typedholes/scope.Arms$1 -/
def g417 : AFunc := ⟨1, 8, [.t 3],
  (.seq
   (.reg [⟨some 2, none, [.t 0], .box 2 4⟩,
     ⟨some 3, none, [.c (.pv (.bool false))], .v (.mv)⟩] [1, 2])
   (.seq
    (.reg [⟨some 4, none, [.t 2], .v (.faddr 3)⟩,
      ⟨some 5, none, [.t 4], .loadL 2 3 1 false⟩,
      ⟨some 6, none, [.t 1], .loadS 1 false⟩,
      ⟨some 7, none, [.t 5, .t 6, .c (.fn 419 [])], .callI 418 []⟩,
      ⟨some 3, none, [.t 7], .v (.mv)⟩] [3])
    .ret)), none, false⟩

/- slices.EqualFunc[[]typedholes/api.Constructor,[]typedholes/api.Arm,typedholes/api.Constructor,typedholes/api.Arm] -/
def g418B0 : ACode :=
  (.seq
   (.reg [⟨some 18, none, [.t 17, .t 16], .v (.bin .lss)⟩] [1, 2, 15, 16, 17, 18])
   (.seq
    (.cond (.t 18)
     .skip
     (.exit 0))
    (.seq
     (.block 1
      (.seq
       (.reg [⟨some 19, none, [.t 17], .v (.mv)⟩,
         ⟨some 20, none, [.t 15, .t 17], .v (.iaddr 3)⟩,
         ⟨some 21, none, [.t 20], .loadS 3 true⟩,
         ⟨some 8, none, [], .alloc 8 [.int .i64 0, .str [], .lst []]⟩,
         ⟨some 7, none, [.t 19], .v (.mv)⟩,
         ⟨none, none, [.t 8, .t 21], .storeL 8 0 3⟩] [1, 2, 7, 8, 15, 16, 17])
       (.seq
        (.reg [⟨some 22, none, [.t 1], .v (.mv)⟩,
          ⟨some 23, none, [.t 7], .v (.mv)⟩,
          ⟨some 24, none, [.t 22, .t 23], .v (.iaddr 14)⟩,
          ⟨some 25, none, [.t 24], .loadS 14 true⟩,
          ⟨some 9, none, [], .alloc 9 [.int .i64 0, .str [], .lst [], .int .i64 0, .int .i64 0, .str [], .int .i64 0, .lst [], .lst [], .int .i64 0, .str [], .int .i64 0, .int .i64 0, .lst []]⟩,
          ⟨none, none, [.t 9, .t 25], .storeL 9 0 14⟩] [1, 2, 8, 9, 15, 16, 17])
        (.seq
         (.reg [⟨some 26, none, [.t 2], .v (.mv)⟩,
           ⟨some 27, none, [.t 8], .loadL 8 0 3 true⟩,
           ⟨some 28, none, [.t 9], .loadL 9 0 14 true⟩,
           ⟨some 29, none, [.t 26, .t 27, .t 28], .callV⟩,
           ⟨some 30, none, [.t 29], .v (.un .not)⟩] [1, 2, 15, 16, 17, 30])
         (.cond (.t 30)
          (.seq
           (.reg [⟨some 6, none, [.c (.pv (.bool false))], .v (.mv)⟩] [6])
           .ret)
          .skip)))))
     (.reg [⟨some 31, none, [.t 17, .c (.pv (.int .i64 1))], .v (.bin .add)⟩,
       ⟨some 17, none, [.t 31], .v (.mv)⟩] [1, 2, 15, 16, 17]))))
def g418L0 : ACode := .loop [1, 2, 15, 16, 17] g418B0
theorem g418L0_eq {AP : Nat → Option AFunc} {st : St} : cl AP g418L0 st = after (cl AP g418L0) (cl AP g418B0 (norm (restrict [1, 2, 15, 16, 17] st))) := cl_loop
def g418 : AFunc := ⟨3, 32, [.t 6],
  (.seq
   (.reg [⟨some 6, none, [.c (.pv (.bool false))], .v (.mv)⟩] [0, 1, 2])
   (.seq
    (.seq
     (.reg [⟨some 10, none, [.t 0], .v (.mv)⟩,
       ⟨some 11, none, [.t 10], .v (.len)⟩,
       ⟨some 12, none, [.t 1], .v (.mv)⟩,
       ⟨some 13, none, [.t 12], .v (.len)⟩,
       ⟨some 14, none, [.t 11, .t 13], .v (.bin .neq)⟩] [0, 1, 2, 14])
     (.cond (.t 14)
      (.seq
       (.reg [⟨some 6, none, [.c (.pv (.bool false))], .v (.mv)⟩] [6])
       .ret)
      .skip))
    (.seq
     (.seq
      (.reg [⟨some 15, none, [.t 0], .v (.mv)⟩,
        ⟨some 16, none, [.t 15], .v (.len)⟩,
        ⟨some 17, none, [.c (.pv (.int .i64 0))], .v (.mv)⟩] [1, 2, 15, 16, 17])
      (.block 0
       g418L0))
     (.seq
      (.reg [⟨some 6, none, [.c (.pv (.bool true))], .v (.mv)⟩] [6])
      .ret)))), none, false⟩

/- typedholes/scope.Arms$1$1 -/
def g419 : AFunc := ⟨2, 10, [.t 4],
  (.seq
   (.reg [⟨some 2, none, [.t 0], .box 2 3⟩,
     ⟨some 3, none, [.t 1], .box 3 14⟩,
     ⟨some 4, none, [.c (.pv (.bool false))], .v (.mv)⟩] [2, 3])
   (.seq
    (.reg [⟨some 5, none, [.t 2], .v (.faddr 1)⟩,
      ⟨some 6, none, [.t 5], .loadL 2 1 1 false⟩,
      ⟨some 7, none, [.t 3], .v (.faddr 1)⟩,
      ⟨some 8, none, [.t 7], .loadL 3 1 1 false⟩,
      ⟨some 9, none, [.t 6, .t 8], .v (.bin .eql)⟩,
      ⟨some 4, none, [.t 9], .v (.mv)⟩] [4])
    .ret)), none, false⟩

/- slices.IndexFunc[[]string,string] -/
def g421B0 : ACode :=
  (.seq
   (.reg [⟨some 9, none, [.t 8, .t 7], .v (.bin .lss)⟩] [0, 1, 7, 8, 9])
   (.seq
    (.cond (.t 9)
     .skip
     (.exit 0))
    (.seq
     (.block 1
      (.seq
       (.reg [⟨some 10, none, [.t 8], .v (.mv)⟩,
         ⟨some 5, none, [.t 10], .v (.mv)⟩] [0, 1, 5, 7, 8])
       (.seq
        (.reg [⟨some 11, none, [.t 1], .v (.mv)⟩,
          ⟨some 12, none, [.t 0], .v (.mv)⟩,
          ⟨some 13, none, [.t 5], .v (.mv)⟩,
          ⟨some 14, none, [.t 12, .t 13], .v (.iaddr 1)⟩,
          ⟨some 15, none, [.t 14], .loadS 1 false⟩,
          ⟨some 16, none, [.t 11, .t 15], .callV⟩] [0, 1, 5, 7, 8, 16])
        (.cond (.t 16)
         (.seq
          (.reg [⟨some 17, none, [.t 5], .v (.mv)⟩,
            ⟨some 4, none, [.t 17], .v (.mv)⟩] [4])
          .ret)
         .skip))))
     (.reg [⟨some 18, none, [.t 8, .c (.pv (.int .i64 1))], .v (.bin .add)⟩,
       ⟨some 8, none, [.t 18], .v (.mv)⟩] [0, 1, 7, 8]))))
def g421L0 : ACode := .loop [0, 1, 7, 8] g421B0
theorem g421L0_eq {AP : Nat → Option AFunc} {st : St} : cl AP g421L0 st = after (cl AP g421L0) (cl AP g421B0 (norm (restrict [0, 1, 7, 8] st))) := cl_loop
def g421 : AFunc := ⟨2, 19, [.t 4],
  (.seq
   (.reg [⟨some 4, none, [.c (.pv (.int .i64 0))], .v (.mv)⟩] [0, 1])
   (.seq
    (.seq
     (.reg [⟨some 6, none, [.t 0], .v (.mv)⟩,
       ⟨some 7, none, [.t 6], .v (.len)⟩,
       ⟨some 8, none, [.c (.pv (.int .i64 0))], .v (.mv)⟩] [0, 1, 7, 8])
     (.block 0
      g421L0))
    (.seq
     (.reg [⟨some 4, none, [.c (.pv (.int .i64 (-1)))], .v (.mv)⟩] [4])
     .ret))), none, false⟩

/- typedholes/scheme.Close -/
def g437B0 : ACode :=
  (.seq
   (.reg [⟨some 13, none, [.t 12, .t 11], .v (.bin .lss)⟩] [1, 2, 4, 5, 10, 11, 12, 13])
   (.seq
    (.cond (.t 13)
     .skip
     (.exit 0))
    (.seq
     (.block 1
      (.seq
       (.reg [⟨some 14, none, [.t 10, .t 12], .v (.iaddr 1)⟩,
         ⟨some 15, none, [.t 14], .v (.loadE 1 false)⟩,
         ⟨some 7, none, [.t 15], .v (.mv)⟩] [1, 2, 4, 5, 7, 10, 11, 12])
       (.seq
        (.reg [⟨some 16, none, [.t 1], .v (.mv)⟩,
          ⟨some 17, none, [.t 7], .v (.mv)⟩,
          ⟨some 18, none, [.t 16, .t 17], .callP 98⟩] [1, 2, 4, 5, 7, 10, 11, 12, 18])
        (.cond (.t 18)
         (.reg [⟨some 19, none, [.t 5], .v (.mv)⟩,
           ⟨some 20, none, [.t 7], .v (.mv)⟩,
           ⟨some 21, none, [.t 5], .v (.mv)⟩,
           ⟨some 22, none, [.t 21], .v (.len)⟩,
           ⟨some 23, none, [.c (.pv (.int .i64 2)), .t 22], .v (.build [.int .i64 0, .str [], .int .i64 0, .int .i64 0, .lst []] [(0, 1), (2, 1)])⟩,
           ⟨some 24, none, [.t 20, .t 23], .v (.build [.int .i64 0, .int .i64 0, .str [], .int .i64 0, .int .i64 0, .lst []] [(0, 1), (1, 5)])⟩,
           ⟨some 25, none, [.t 24], .v (.bslice 6)⟩,
           ⟨some 26, none, [.t 19, .t 25], .append 6 72⟩,
           ⟨some 5, none, [.t 26], .v (.mv)⟩] [1, 2, 4, 5, 10, 11, 12])
         .skip))))
     (.reg [⟨some 27, none, [.t 12, .c (.pv (.int .i64 1))], .v (.bin .add)⟩,
       ⟨some 12, none, [.t 27], .v (.mv)⟩] [1, 2, 4, 5, 10, 11, 12]))))
def g437L0 : ACode := .loop [1, 2, 4, 5, 10, 11, 12] g437B0
theorem g437L0_eq {AP : Nat → Option AFunc} {st : St} : cl AP g437L0 st = after (cl AP g437L0) (cl AP g437B0 (norm (restrict [1, 2, 4, 5, 10, 11, 12] st))) := cl_loop
def g437 : AFunc := ⟨2, 34, [.c 4 6 true],
  (.seq
   (.reg [⟨some 2, none, [.t 0], .box 2 5⟩,
     ⟨some 4, none, [], .alloc 4 [.int .i64 0, .int .i64 0, .str [], .int .i64 0, .int .i64 0, .lst []]⟩] [1, 2, 4])
   (.seq
    (.reg [⟨some 5, none, [.c (.clp [])], .v (.mv)⟩] [1, 2, 4, 5])
    (.seq
     (.seq
      (.reg [⟨some 8, none, [.t 2], .loadL 2 0 5 true⟩,
        ⟨some 9, none, [.t 8], .v (.bslice 5)⟩,
        ⟨some 10, none, [.t 9], .callP 55⟩,
        ⟨some 11, none, [.t 10], .v (.len)⟩,
        ⟨some 12, none, [.c (.pv (.int .i64 0))], .v (.mv)⟩] [1, 2, 4, 5, 10, 11, 12])
      (.block 0
       g437L0))
     (.seq
      (.reg [⟨some 28, none, [.t 5], .v (.mv)⟩,
        ⟨some 29, none, [.t 28], .v (.len)⟩,
        ⟨some 30, none, [.t 2], .loadL 2 0 5 true⟩,
        ⟨some 31, none, [.t 5], .v (.mv)⟩,
        ⟨some 32, none, [.t 30, .t 31], .callP 45⟩,
        ⟨some 33, none, [.t 29, .t 32], .v (.build [.int .i64 0, .int .i64 0, .str [], .int .i64 0, .int .i64 0, .lst []] [(0, 1), (1, 5)])⟩,
        ⟨none, none, [.t 4, .t 33], .storeL 4 0 6⟩] [4])
      .ret)))), none, false⟩

/- typedholes/scheme.Mono -/
def g438 : AFunc := ⟨1, 5, [.c 2 6 true],
  (.seq
   (.reg [⟨some 1, none, [.t 0], .box 1 5⟩,
     ⟨some 2, none, [], .alloc 2 [.int .i64 0, .int .i64 0, .str [], .int .i64 0, .int .i64 0, .lst []]⟩] [1, 2])
   (.seq
    (.reg [⟨some 3, none, [.t 1], .loadL 1 0 5 true⟩,
      ⟨some 4, none, [.t 3], .v (.build [.int .i64 0, .int .i64 0, .str [], .int .i64 0, .int .i64 0, .lst []] [(1, 5)])⟩,
      ⟨none, none, [.t 2, .t 4], .storeL 2 0 6⟩] [2])
    .ret)), none, false⟩

/- typedholes/typedholeslaw20.DeriveHoles -/
def g446 : AFunc := ⟨4, 117, [.t 8],
  (.seq
   (.reg [⟨some 8, none, [.c (.pv (.bool false))], .v (.mv)⟩] [0, 1, 2, 3])
   (.seq
    (.seq
     (.reg [⟨some 20, none, [], .callP 448⟩,
       ⟨some 21, none, [.t 20], .v (.un .not)⟩] [0, 1, 2, 3, 21])
     (.cond (.t 21)
      (.seq
       (.reg [⟨some 8, none, [.c (.pv (.bool false))], .v (.mv)⟩] [8])
       .ret)
      .skip))
    (.seq
     (.seq
      (.reg [⟨some 22, none, [.t 1], .v (.mv)⟩,
        ⟨some 23, none, [.t 22], .callP 15⟩,
        ⟨some 24, none, [.t 23], .v (.un .not)⟩] [0, 1, 2, 3, 24])
      (.cond (.t 24)
       (.seq
        (.reg [⟨some 8, none, [.c (.pv (.bool true))], .v (.mv)⟩] [8])
        .ret)
       .skip))
     (.seq
      (.reg [⟨some 25, none, [.t 1], .v (.mv)⟩,
        ⟨some 26, none, [.t 25], .v (.build [.lst [], .int .i64 0] [(0, 1)])⟩,
        ⟨some 27, none, [.t 26], .boxS 2⟩,
        ⟨some 9, none, [.t 27], .v (.mv)⟩] [0, 2, 3, 9])
      (.seq
       (.reg [⟨some 28, none, [.t 9], .v (.mv)⟩,
         ⟨some 29, none, [.t 0], .v (.mv)⟩,
         ⟨some 30, none, [.t 29], .callP 32⟩,
         ⟨some 31, none, [.c (.pv (.int .i64 3))], .callI 70 []⟩,
         ⟨some 32, none, [.c (.pv (.int .i64 0)), .c (.pv (.int .i64 1))], .callP 71⟩,
         ⟨some 33, none, [.t 32], .v (.bslice 5)⟩,
         ⟨some 34, none, [.t 31, .t 33], .append 5 64⟩,
         ⟨some 35, none, [.t 28, .t 30, .t 34, .c (.pv (.int .i64 2))], .callI 27 []⟩,
         ⟨some 10, none, [], .alloc 10 [.int .i64 0, .str [], .int .i64 0, .int .i64 0, .lst []]⟩,
         ⟨none, none, [.t 10, .t 35], .storeL 10 0 5⟩] [2, 3, 10])
       (.seq
        (.reg [⟨some 36, none, [.c (.pv (.int .i64 10)), .c (.pv (.int .i64 7))], .v (.build [.int .i64 0, .int .i64 0, .str [], .int .i64 0, .lst [], .lst [], .int .i64 0, .str [], .int .i64 0, .int .i64 0, .lst []] [(0, 1), (1, 1)])⟩,
          ⟨some 11, none, [], .alloc 11 [.int .i64 0, .int .i64 0, .str [], .int .i64 0, .lst [], .lst [], .int .i64 0, .str [], .int .i64 0, .int .i64 0, .lst []]⟩,
          ⟨none, none, [.t 11, .t 36], .storeL 11 0 11⟩] [2, 3, 10, 11])
        (.seq
         (.seq
          (.reg [⟨some 37, none, [.t 3], .v (.mv)⟩] [2, 3, 10, 11, 37])
          (.cond (.t 37)
           (.reg [⟨some 38, none, [.c (.pv (.int .i64 10)), .c (.pv (.int .i64 8))], .v (.build [.int .i64 0, .int .i64 0, .str [], .int .i64 0, .lst [], .lst [], .int .i64 0, .str [], .int .i64 0, .int .i64 0, .lst []] [(0, 1), (1, 1)])⟩,
             ⟨some 39, none, [.t 38], .v (.bslice 11)⟩,
             ⟨some 40, none, [.c (.pv (.int .i64 11)), .c (.pv (.int .i64 7)), .t 39], .v (.build [.int .i64 0, .int .i64 0, .str [], .int .i64 0, .lst [], .lst [], .int .i64 0, .str [], .int .i64 0, .int .i64 0, .lst []] [(0, 1), (1, 1), (4, 1)])⟩,
             ⟨none, none, [.t 11, .t 40], .storeL 11 0 11⟩] [2, 3, 10, 11])
           .skip))
         (.seq
          (.reg [⟨some 41, none, [.t 11], .loadL 11 0 11 true⟩,
            ⟨some 42, none, [.c (.pv (.int .i64 3)), .c (.pv (.int .i64 1))], .v (.build [.int .i64 0, .int .i64 0, .str [], .int .i64 0, .lst [], .lst [], .int .i64 0, .str [], .int .i64 0, .int .i64 0, .lst []] [(0, 1), (3, 1)])⟩,
            ⟨some 43, none, [.t 41, .t 42], .v (.bslice 11)⟩,
            ⟨some 44, none, [.c (.pv (.int .i64 6)), .c (.pv (.str [104])), .t 43], .v (.build [.int .i64 0, .int .i64 0, .str [], .int .i64 0, .lst [], .lst [], .int .i64 0, .str [], .int .i64 0, .int .i64 0, .lst []] [(0, 1), (2, 1), (4, 1)])⟩,
            ⟨some 12, none, [], .alloc 12 [.int .i64 0, .int .i64 0, .str [], .int .i64 0, .lst [], .lst [], .int .i64 0, .str [], .int .i64 0, .int .i64 0, .lst []]⟩,
            ⟨none, none, [.t 12, .t 44], .storeL 12 0 11⟩] [2, 3, 10, 12])
          (.seq
           (.reg [⟨some 45, none, [.t 10], .loadL 10 0 5 true⟩,
             ⟨some 46, none, [.t 45], .v (.build [.int .i64 0, .str [], .int .i64 0, .int .i64 0, .lst [], .lst [], .lst [], .lst []] [(0, 5)])⟩,
             ⟨some 13, none, [], .alloc 13 [.int .i64 0, .str [], .int .i64 0, .int .i64 0, .lst [], .lst [], .lst [], .lst []]⟩,
             ⟨none, none, [.t 13, .t 46], .storeL 13 0 8⟩] [2, 3, 10, 12, 13])
           (.seq
            (.seq
             (.reg [⟨some 47, none, [.t 3], .v (.mv)⟩] [2, 3, 10, 12, 13, 47])
             (.cond (.t 47)
              (.reg [⟨some 48, none, [.t 10], .loadL 10 0 5 true⟩,
                ⟨some 49, none, [.t 48], .v (.build [.int .i64 0, .str [], .int .i64 0, .int .i64 0, .lst [], .lst [], .lst [], .lst []] [(0, 5)])⟩,
                ⟨some 50, none, [.t 49], .v (.bslice 8)⟩,
                ⟨some 51, none, [.t 13], .v (.faddr 7)⟩,
                ⟨none, none, [.t 51, .t 50], .storeL 13 7 1⟩] [2, 3, 10, 12, 13])
              .skip))
            (.seq
             (.reg [⟨some 52, none, [], .callP 34⟩,
               ⟨some 53, none, [.t 13], .loadL 13 0 8 true⟩,
               ⟨some 54, none, [], .callP 34⟩,
               ⟨some 55, none, [.t 54], .v (.build [.int .i64 0, .str [], .int .i64 0, .int .i64 0, .lst [], .lst [], .lst [], .lst []] [(0, 5)])⟩,
               ⟨some 56, none, [.t 53, .t 55], .v (.bslice 8)⟩,
               ⟨some 57, none, [.t 52, .t 56], .v (.build [.int .i64 0, .str [], .int .i64 0, .int .i64 0, .lst [], .lst [], .lst [], .lst []] [(0, 5), (7, 1)])⟩,
               ⟨some 14, none, [], .alloc 14 [.int .i64 0, .str [], .int .i64 0, .int .i64 0, .lst [], .lst [], .lst [], .lst []]⟩,
               ⟨none, none, [.t 14, .t 57], .storeL 14 0 8⟩] [2, 3, 10, 12, 14])
             (.seq
              (.reg [⟨some 59, none, [.t 12], .loadL 12 0 11 true⟩,
                ⟨some 60, none, [.t 14], .loadL 14 0 8 true⟩,
                ⟨some 61, none, [.c (.clp []), .c (.clp []), .c (.pv (.int .i64 3)), .t 59, .t 60], .callP 453⟩,
                ⟨some 58, none, [.t 61], .v (.mv)⟩,
                ⟨some 62, none, [.t 58], .v (.ext 0)⟩,
                ⟨some 63, none, [.t 58], .v (.ext 1)⟩,
                ⟨some 15, none, [.t 62], .v (.mv)⟩,
                ⟨some 16, none, [.t 63], .v (.mv)⟩] [2, 3, 10, 12, 14, 15, 16])
              (.seq
               (.reg [⟨some 64, none, [.t 10], .loadL 10 0 5 true⟩,
                 ⟨some 65, none, [.t 64], .v (.bslice 5)⟩,
                 ⟨some 66, none, [.t 65], .callP 56⟩,
                 ⟨some 17, none, [.t 66], .v (.mv)⟩] [2, 3, 10, 12, 14, 15, 16, 17])
               (.seq
                (.seq
                 (.reg [⟨some 67, none, [.t 16], .v (.mv)⟩,
                   ⟨some 68, none, [.t 67, .c (.pv (.int .i64 0))], .v (.bin .neq)⟩,
                   ⟨some 69, none, [.t 68], .v (.mv)⟩,
                   ⟨some 70, some (69, false), [.t 15], .v (.mv)⟩,
                   ⟨some 71, some (69, false), [.t 70], .v (.len)⟩,
                   ⟨some 72, some (69, false), [.t 71, .c (.pv (.int .i64 0))], .v (.bin .eql)⟩,
                   ⟨some 73, none, [.t 69, .c (.pv (.bool true)), .t 72], .v (.pick)⟩,
                   ⟨some 74, none, [.t 73], .v (.mv)⟩,
                   ⟨some 75, some (74, false), [.t 15], .v (.mv)⟩,
                   ⟨some 76, some (74, false), [.t 75, .c (.pv (.int .i64 0))], .v (.iaddr 8)⟩,
                   ⟨some 77, some (74, false), [.t 76], .v (.faddr 3)⟩,
                   ⟨some 78, some (74, false), [.t 77], .v (.loadE 5 true)⟩,
                   ⟨some 79, some (74, false), [.t 10], .loadL 10 0 5 true⟩,
                   ⟨some 80, some (74, false), [.t 78, .t 79], .callP 20⟩,
                   ⟨some 81, some (74, false), [.t 80], .v (.un .not)⟩,
                   ⟨some 82, none, [.t 74, .c (.pv (.bool true)), .t 81], .v (.pick)⟩,
                   ⟨some 83, none, [.t 82], .v (.mv)⟩,
                   ⟨some 84, some (83, false), [.t 15], .v (.mv)⟩,
                   ⟨some 85, some (83, false), [.t 84, .c (.pv (.int .i64 0))], .v (.iaddr 8)⟩,
                   ⟨some 86, some (83, false), [.t 85], .v (.faddr 0)⟩,
                   ⟨some 87, some (83, false), [.t 86], .v (.loadE 1 false)⟩,
                   ⟨some 88, some (83, false), [.t 87, .c (.pv (.int .i64 3))], .v (.bin .neq)⟩,
                   ⟨some 89, none, [.t 83, .c (.pv (.bool true)), .t 88], .v (.pick)⟩,
                   ⟨some 90, none, [.t 89], .v (.mv)⟩,
                   ⟨some 91, some (90, false), [.t 15], .v (.mv)⟩,
                   ⟨some 92, some (90, false), [.t 91], .v (.len)⟩,
                   ⟨some 93, some (90, false), [.t 92, .c (.pv (.int .i64 2))], .v (.bin .eql)⟩,
                   ⟨some 94, some (90, false), [.t 3], .v (.mv)⟩,
                   ⟨some 95, some (90, false), [.t 93, .t 94], .v (.beq true)⟩,
                   ⟨some 96, none, [.t 90, .c (.pv (.bool true)), .t 95], .v (.pick)⟩] [2, 12, 14, 17, 96])
                 (.cond (.t 96)
                  (.seq
                   (.reg [⟨some 8, none, [.c (.pv (.bool false))], .v (.mv)⟩] [8])
                   .ret)
                  .skip))
                (.seq
                 (.seq
                  (.reg [⟨some 97, none, [.t 17], .v (.mv)⟩,
                    ⟨some 98, none, [.t 97], .v (.len)⟩,
                    ⟨some 99, none, [.t 98, .c (.pv (.int .i64 0))], .v (.bin .eql)⟩] [2, 12, 14, 17, 99])
                  (.cond (.t 99)
                   (.seq
                    (.reg [⟨some 8, none, [.c (.pv (.bool true))], .v (.mv)⟩] [8])
                    .ret)
                   .skip))
                 (.seq
                  (.reg [⟨some 100, none, [.t 17], .v (.mv)⟩,
                    ⟨some 101, none, [.t 2], .v (.mv)⟩,
                    ⟨some 102, none, [.t 17], .v (.mv)⟩,
                    ⟨some 103, none, [.t 102], .v (.len)⟩,
                    ⟨some 104, none, [.t 101, .t 103], .callP 26⟩,
                    ⟨some 105, none, [.t 100, .t 104], .v (.iaddr 1)⟩,
                    ⟨some 106, none, [.t 105], .v (.loadE 1 false)⟩,
                    ⟨some 107, none, [.t 106], .v (.bslice 1)⟩,
                    ⟨some 108, none, [.t 14], .v (.faddr 6)⟩,
                    ⟨none, none, [.t 108, .t 107], .storeL 14 6 1⟩] [12, 14])
                  (.seq
                   (.reg [⟨some 110, none, [.t 12], .loadL 12 0 11 true⟩,
                     ⟨some 111, none, [.t 14], .loadL 14 0 8 true⟩,
                     ⟨some 112, none, [.c (.clp []), .c (.clp []), .c (.pv (.int .i64 3)), .t 110, .t 111], .callP 453⟩,
                     ⟨some 109, none, [.t 112], .v (.mv)⟩,
                     ⟨some 113, none, [.t 109], .v (.ext 0)⟩,
                     ⟨some 114, none, [.t 109], .v (.ext 1)⟩,
                     ⟨some 18, none, [.t 113], .v (.mv)⟩,
                     ⟨some 19, none, [.t 114], .v (.mv)⟩] [19])
                   (.seq
                    (.reg [⟨some 115, none, [.t 19], .v (.mv)⟩,
                      ⟨some 116, none, [.t 115, .c (.pv (.int .i64 18))], .v (.bin .eql)⟩,
                      ⟨some 8, none, [.t 116], .v (.mv)⟩] [8])
                    .ret)))))))))))))))))), none, false⟩

/- typedholes/typedholeslaw20.first -/
def g448 : AFunc := ⟨0, 56, [.t 0],
  (.seq
   (.reg [⟨some 0, none, [.c (.pv (.bool false))], .v (.mv)⟩] [])
   (.seq
    (.reg [⟨some 8, none, [], .callP 34⟩,
      ⟨some 9, none, [], .callP 34⟩,
      ⟨some 10, none, [.t 8, .t 9], .callP 69⟩,
      ⟨some 11, none, [], .callP 34⟩,
      ⟨some 12, none, [.t 11], .v (.build [.int .i64 0, .str [], .int .i64 0, .int .i64 0, .lst [], .lst [], .lst [], .lst []] [(0, 5)])⟩,
      ⟨some 13, none, [.t 12], .v (.bslice 8)⟩,
      ⟨some 14, none, [.t 10, .t 13], .v (.build [.int .i64 0, .str [], .int .i64 0, .int .i64 0, .lst [], .lst [], .lst [], .lst []] [(0, 5), (7, 1)])⟩,
      ⟨some 1, none, [], .alloc 1 [.int .i64 0, .str [], .int .i64 0, .int .i64 0, .lst [], .lst [], .lst [], .lst []]⟩,
      ⟨none, none, [.t 1, .t 14], .storeL 1 0 8⟩] [1])
    (.seq
     (.reg [⟨some 16, none, [], .callP 464⟩,
       ⟨some 17, none, [.t 1], .loadL 1 0 8 true⟩,
       ⟨some 18, none, [.c (.clp []), .c (.clp []), .c (.pv (.int .i64 0)), .t 16, .t 17], .callP 453⟩,
       ⟨some 15, none, [.t 18], .v (.mv)⟩,
       ⟨some 19, none, [.t 15], .v (.ext 0)⟩,
       ⟨some 20, none, [.t 15], .v (.ext 1)⟩,
       ⟨some 2, none, [.t 19], .v (.mv)⟩,
       ⟨some 3, none, [.t 20], .v (.mv)⟩] [1, 3])
     (.seq
      (.reg [⟨some 21, none, [], .callP 34⟩,
        ⟨some 22, none, [.c (.pv (.int .i64 0))], .callP 63⟩,
        ⟨some 23, none, [.t 21, .t 22], .callP 69⟩,
        ⟨some 24, none, [.t 1], .v (.faddr 0)⟩,
        ⟨none, none, [.t 24, .t 23], .storeL 1 0 5⟩] [1, 3])
      (.seq
       (.reg [⟨some 26, none, [], .callP 464⟩,
         ⟨some 27, none, [.t 1], .loadL 1 0 8 true⟩,
         ⟨some 28, none, [.c (.clp []), .c (.clp []), .c (.pv (.int .i64 0)), .t 26, .t 27], .callP 453⟩,
         ⟨some 25, none, [.t 28], .v (.mv)⟩,
         ⟨some 29, none, [.t 25], .v (.ext 0)⟩,
         ⟨some 30, none, [.t 25], .v (.ext 1)⟩,
         ⟨some 4, none, [.t 29], .v (.mv)⟩,
         ⟨some 5, none, [.t 30], .v (.mv)⟩] [3, 5])
       (.seq
        (.reg [⟨some 32, none, [.c (.pv (.str [98]))], .callP 106⟩,
          ⟨some 33, none, [.c (.pv (.str [97]))], .callP 106⟩,
          ⟨some 34, none, [.t 32, .t 33], .callP 69⟩,
          ⟨some 35, none, [.t 34, .c (.pv (.int .i64 4))], .callP 456⟩,
          ⟨some 31, none, [.t 35], .v (.mv)⟩,
          ⟨some 36, none, [.t 31], .v (.ext 0)⟩,
          ⟨some 37, none, [.t 31], .v (.ext 1)⟩,
          ⟨some 6, none, [], .alloc 6 [.int .i64 0, .str [], .int .i64 0, .int .i64 0, .lst []]⟩,
          ⟨some 7, none, [], .alloc 7 [.int .i64 0, .int .i64 0, .str [], .int .i64 0, .int .i64 0, .lst []]⟩,
          ⟨none, none, [.t 6, .t 36], .storeL 6 0 5⟩,
          ⟨none, none, [.t 7, .t 37], .storeL 7 0 6⟩] [3, 5, 6, 7])
        (.seq
         (.reg [⟨some 38, none, [.t 3], .v (.mv)⟩,
           ⟨some 39, none, [.t 38, .c (.pv (.int .i64 0))], .v (.bin .eql)⟩,
           ⟨some 40, none, [.t 39], .v (.mv)⟩,
           ⟨some 41, some (40, true), [.t 5], .v (.mv)⟩,
           ⟨some 42, some (40, true), [.t 41, .c (.pv (.int .i64 18))], .v (.bin .eql)⟩,
           ⟨some 43, none, [.t 40, .t 42, .c (.pv (.bool false))], .v (.pick)⟩,
           ⟨some 44, none, [.t 43], .v (.mv)⟩,
           ⟨some 45, some (44, true), [.t 6], .loadL 6 0 5 true⟩,
           ⟨some 46, some (44, true), [.c (.pv (.int .i64 4)), .c (.pv (.int .i64 0))], .callP 71⟩,
           ⟨some 47, some (44, true), [.c (.pv (.int .i64 4)), .c (.pv (.int .i64 1))], .callP 71⟩,
           ⟨some 48, some (44, true), [.t 46, .t 47], .callP 69⟩,
           ⟨some 49, some (44, true), [.t 45, .t 48], .callP 20⟩,
           ⟨some 50, none, [.t 44, .t 49, .c (.pv (.bool false))], .v (.pick)⟩,
           ⟨some 51, none, [.t 50], .v (.mv)⟩,
           ⟨some 52, some (51, true), [.t 7], .v (.faddr 0)⟩,
           ⟨some 53, some (51, true), [.t 52], .loadL 7 0 1 false⟩,
           ⟨some 54, some (51, true), [.t 53, .c (.pv (.int .i64 2))], .v (.bin .eql)⟩,
           ⟨some 55, none, [.t 51, .t 54, .c (.pv (.bool false))], .v (.pick)⟩,
           ⟨some 0, none, [.t 55], .v (.mv)⟩] [0])
         .ret))))))), none, false⟩

/- typedholes/derive.Expr -/
def g453B0 : ACode :=
  (.seq
   (.reg [⟨some 29, none, [.t 28, .t 27], .v (.bin .lss)⟩] [13, 14, 26, 27, 28, 29])
   (.seq
    (.cond (.t 29)
     .skip
     (.exit 0))
    (.seq
     (.block 1
      (.seq
       (.reg [⟨some 30, none, [.t 26, .t 28], .v (.iaddr 9)⟩,
         ⟨some 31, none, [.t 30], .v (.loadE 9 true)⟩,
         ⟨some 16, none, [], .alloc 16 [.int .i64 0, .int .i64 0, .lst [], .int .i64 0, .str [], .int .i64 0, .int .i64 0, .lst [], .bool false]⟩,
         ⟨none, none, [.t 16, .t 31], .storeL 16 0 9⟩] [13, 14, 16, 26, 27, 28])
       (.reg [⟨some 32, none, [.t 14], .v (.mv)⟩,
         ⟨some 33, none, [.t 16], .v (.faddr 0)⟩,
         ⟨some 34, none, [.t 33], .loadL 16 0 8 true⟩,
         ⟨some 35, none, [.t 34], .v (.bslice 8)⟩,
         ⟨some 36, none, [.t 32, .t 35], .append 8 104⟩,
         ⟨some 14, none, [.t 36], .v (.mv)⟩] [13, 14, 26, 27, 28])))
     (.reg [⟨some 37, none, [.t 28, .c (.pv (.int .i64 1))], .v (.bin .add)⟩,
       ⟨some 28, none, [.t 37], .v (.mv)⟩] [13, 14, 26, 27, 28]))))
def g453L0 : ACode := .loop [13, 14, 26, 27, 28] g453B0
theorem g453L0_eq {AP : Nat → Option AFunc} {st : St} : cl AP g453L0 st = after (cl AP g453L0) (cl AP g453B0 (norm (restrict [13, 14, 26, 27, 28] st))) := cl_loop
def g453 : AFunc := ⟨5, 40, [.t 10, .t 11],
  (.seq
   (.reg [⟨some 8, none, [.t 3], .box 8 11⟩,
     ⟨some 9, none, [.t 4], .box 9 8⟩,
     ⟨some 10, none, [.c (.clp [])], .v (.mv)⟩,
     ⟨some 11, none, [.c (.pv (.int .i64 0))], .v (.mv)⟩] [0, 1, 2, 8, 9])
   (.seq
    (.reg [⟨some 18, none, [.t 0], .v (.mv)⟩,
      ⟨some 19, none, [.t 1], .v (.mv)⟩,
      ⟨some 20, none, [.t 2], .v (.mv)⟩,
      ⟨some 21, none, [.t 8], .loadL 8 0 11 true⟩,
      ⟨some 22, none, [.t 9], .loadL 9 0 8 true⟩,
      ⟨some 23, none, [.t 18, .t 19, .t 20, .t 21, .t 22], .callP 473⟩,
      ⟨some 17, none, [.t 23], .v (.mv)⟩,
      ⟨some 24, none, [.t 17], .v (.ext 0)⟩,
      ⟨some 25, none, [.t 17], .v (.ext 1)⟩,
      ⟨some 12, none, [.t 24], .v (.mv)⟩,
      ⟨some 13, none, [.t 25], .v (.mv)⟩] [12, 13])
    (.seq
     (.reg [⟨some 14, none, [.c (.clp [])], .v (.mv)⟩] [12, 13, 14])
     (.seq
      (.seq
       (.reg [⟨some 26, none, [.t 12], .v (.mv)⟩,
         ⟨some 27, none, [.t 26], .v (.len)⟩,
         ⟨some 28, none, [.c (.pv (.int .i64 0))], .v (.mv)⟩] [13, 14, 26, 27, 28])
       (.block 0
        g453L0))
      (.seq
       (.reg [⟨some 38, none, [.t 14], .v (.mv)⟩,
         ⟨some 39, none, [.t 13], .v (.mv)⟩,
         ⟨some 10, none, [.t 38], .v (.mv)⟩,
         ⟨some 11, none, [.t 39], .v (.mv)⟩] [10, 11])
       .ret))))), none, false⟩

/- typedholes/derive.Signature -/
def g456 : AFunc := ⟨2, 21, [.c 4 5 true, .c 5 6 true],
  (.seq
   (.reg [⟨some 2, none, [.t 0], .box 2 5⟩,
     ⟨some 3, none, [.t 1], .boxS 1⟩,
     ⟨some 4, none, [], .alloc 4 [.int .i64 0, .str [], .int .i64 0, .int .i64 0, .lst []]⟩,
     ⟨some 5, none, [], .alloc 5 [.int .i64 0, .int .i64 0, .str [], .int .i64 0, .int .i64 0, .lst []]⟩] [2, 3, 4, 5])
   (.seq
    (.reg [⟨some 8, none, [.t 2], .loadL 2 0 5 true⟩,
      ⟨some 9, none, [.t 8], .callP 195⟩,
      ⟨some 6, none, [.t 9], .v (.mv)⟩] [2, 3, 4, 5, 6])
    (.seq
     (.reg [⟨some 10, none, [.t 2], .loadL 2 0 5 true⟩,
       ⟨some 11, none, [.t 6], .v (.mv)⟩,
       ⟨some 12, none, [.t 3], .v (.mkfn 479)⟩,
       ⟨some 13, none, [.t 10, .t 11, .t 12], .callI 478 []⟩,
       ⟨some 7, none, [], .alloc 7 [.int .i64 0, .str [], .int .i64 0, .int .i64 0, .lst []]⟩,
       ⟨none, none, [.t 7, .t 13], .storeL 7 0 5⟩] [2, 4, 5, 6, 7])
     (.seq
      (.reg [⟨some 14, none, [.t 7], .loadL 7 0 5 true⟩,
        ⟨some 15, none, [.t 6], .v (.mv)⟩,
        ⟨some 16, none, [.t 15], .v (.len)⟩,
        ⟨some 17, none, [.t 2], .loadL 2 0 5 true⟩,
        ⟨some 18, none, [.t 6], .v (.mv)⟩,
        ⟨some 19, none, [.t 17, .t 18], .callP 197⟩,
        ⟨some 20, none, [.t 16, .t 19], .v (.build [.int .i64 0, .int .i64 0, .str [], .int .i64 0, .int .i64 0, .lst []] [(0, 1), (1, 5)])⟩,
        ⟨none, none, [.t 4, .t 14], .storeL 4 0 5⟩,
        ⟨none, none, [.t 5, .t 20], .storeL 5 0 6⟩] [4, 5])
      .ret)))), none, false⟩

/- typedholes/typedholeslaw20.id -/
def g464 : AFunc := ⟨0, 4, [.c 0 11 true],
  (.seq
   (.reg [⟨some 0, none, [], .alloc 0 [.int .i64 0, .int .i64 0, .str [], .int .i64 0, .lst [], .lst [], .int .i64 0, .str [], .int .i64 0, .int .i64 0, .lst []]⟩] [0])
   (.seq
    (.reg [⟨some 1, none, [.c (.pv (.int .i64 1)), .c (.pv (.str [120]))], .v (.build [.int .i64 0, .int .i64 0, .str [], .int .i64 0, .lst [], .lst [], .int .i64 0, .str [], .int .i64 0, .int .i64 0, .lst []] [(0, 1), (2, 1)])⟩,
      ⟨some 2, none, [.t 1], .v (.bslice 11)⟩,
      ⟨some 3, none, [.c (.pv (.int .i64 4)), .c (.pv (.str [120])), .t 2], .v (.build [.int .i64 0, .int .i64 0, .str [], .int .i64 0, .lst [], .lst [], .int .i64 0, .str [], .int .i64 0, .int .i64 0, .lst []] [(0, 1), (2, 1), (4, 1)])⟩,
      ⟨none, none, [.t 0, .t 3], .storeL 0 0 11⟩] [0])
    .ret)), none, false⟩

/- typedholes/derive.check -/
def g473 : AFunc := ⟨5, 44, [.t 10, .t 11],
  (.seq
   (.reg [⟨some 8, none, [.t 3], .box 8 11⟩,
     ⟨some 9, none, [.t 4], .box 9 8⟩,
     ⟨some 10, none, [.c (.clp [])], .v (.mv)⟩,
     ⟨some 11, none, [.c (.pv (.int .i64 0))], .v (.mv)⟩] [0, 1, 2, 8, 9])
   (.seq
    (.block 0
     (.seq
      (.reg [⟨some 15, none, [.t 8], .loadL 8 0 11 true⟩,
        ⟨some 16, none, [.t 15], .callP 483⟩,
        ⟨some 17, none, [.t 16], .v (.un .not)⟩,
        ⟨some 18, none, [.t 17], .v (.mv)⟩,
        ⟨some 19, some (18, false), [.t 8], .loadL 8 0 11 true⟩,
        ⟨some 20, some (18, false), [.t 9], .loadL 9 0 8 true⟩,
        ⟨some 21, some (18, false), [.t 19, .t 20], .callP 484⟩,
        ⟨some 22, some (18, false), [.t 21], .v (.un .not)⟩,
        ⟨some 23, none, [.t 18, .c (.pv (.bool true)), .t 22], .v (.pick)⟩,
        ⟨some 14, none, [.t 23], .v (.mv)⟩] [0, 1, 2, 8, 9, 14])
      (.cond (.t 14)
       (.seq
        (.reg [⟨some 10, none, [.c (.clp [])], .v (.mv)⟩,
          ⟨some 11, none, [.c (.pv (.int .i64 17))], .v (.mv)⟩] [10, 11])
        .ret)
       (.seq
        (.reg [⟨some 25, none, [.t 0], .v (.mv)⟩,
          ⟨some 26, none, [.t 1], .v (.mv)⟩,
          ⟨some 27, none, [.t 26], .callP 486⟩,
          ⟨some 28, none, [.t 8], .loadL 8 0 11 true⟩,
          ⟨some 29, none, [.t 25, .t 27, .t 28], .callP 485⟩,
          ⟨some 30, none, [.t 29], .v (.un .not)⟩,
          ⟨some 24, none, [.t 30], .v (.mv)⟩] [0, 1, 2, 8, 9, 24])
        (.cond (.t 24)
         (.seq
          (.reg [⟨some 10, none, [.c (.clp [])], .v (.mv)⟩,
            ⟨some 11, none, [.c (.pv (.int .i64 9))], .v (.mv)⟩] [10, 11])
          .ret)
         .skip)))))
    (.seq
     (.reg [⟨some 32, none, [.t 0], .v (.mv)⟩,
       ⟨some 33, none, [.t 2], .v (.mv)⟩,
       ⟨some 34, none, [.t 32, .t 33], .v (.build [.lst [], .int .i64 0] [(0, 1), (1, 1)])⟩,
       ⟨some 35, none, [.t 1], .v (.mv)⟩,
       ⟨some 36, none, [.t 8], .loadL 8 0 11 true⟩,
       ⟨some 37, none, [.t 9], .loadL 9 0 8 true⟩,
       ⟨some 38, none, [.t 34, .t 35, .t 36, .t 37], .callP 487⟩,
       ⟨some 31, none, [.t 38], .v (.mv)⟩,
       ⟨some 39, none, [.t 31], .v (.ext 0)⟩,
       ⟨some 40, none, [.t 31], .v (.ext 1)⟩,
       ⟨some 12, none, [.t 39], .v (.mv)⟩,
       ⟨some 13, none, [.t 40], .v (.mv)⟩] [12, 13])
     (.seq
      (.seq
       (.reg [⟨some 41, none, [.t 13], .v (.mv)⟩,
         ⟨some 42, none, [.t 41], .v (.un .not)⟩] [12, 42])
       (.cond (.t 42)
        (.seq
         (.reg [⟨some 10, none, [.c (.clp [])], .v (.mv)⟩,
           ⟨some 11, none, [.c (.pv (.int .i64 18))], .v (.mv)⟩] [10, 11])
         .ret)
        .skip))
      (.seq
       (.reg [⟨some 43, none, [.t 12], .v (.mv)⟩,
         ⟨some 10, none, [.t 43], .v (.mv)⟩,
         ⟨some 11, none, [.c (.pv (.int .i64 0))], .v (.mv)⟩] [10, 11])
       .ret))))), none, false⟩

/- typedholes/derive.written -/
def g478B0 : ACode :=
  (.seq
   (.reg [⟨some 33, none, [.t 32, .t 31], .v (.bin .lss)⟩] [1, 2, 3, 6, 8, 30, 31, 32, 33])
   (.seq
    (.cond (.t 33)
     .skip
     (.exit 0))
    (.seq
     (.block 1
      (.seq
       (.reg [⟨some 34, none, [.t 32], .v (.mv)⟩,
         ⟨some 35, none, [.t 30, .t 32], .v (.iaddr 5)⟩,
         ⟨some 36, none, [.t 35], .loadS 5 true⟩,
         ⟨some 10, none, [], .alloc 10 [.int .i64 0, .str [], .int .i64 0, .int .i64 0, .lst []]⟩,
         ⟨some 9, none, [.t 34], .v (.mv)⟩,
         ⟨none, none, [.t 10, .t 36], .storeL 10 0 5⟩] [1, 2, 3, 6, 8, 9, 10, 30, 31, 32])
       (.reg [⟨some 37, none, [.t 8], .v (.mv)⟩,
         ⟨some 38, none, [.t 9], .v (.mv)⟩,
         ⟨some 39, none, [.t 10], .loadL 10 0 5 true⟩,
         ⟨some 40, none, [.t 1], .v (.mv)⟩,
         ⟨some 41, none, [.t 2], .v (.mv)⟩,
         ⟨some 42, none, [.t 39, .t 40, .t 41], .callI 478 []⟩,
         ⟨some 43, none, [.t 37, .t 38], .v (.iaddr 5)⟩,
         ⟨none, none, [.t 43, .t 42], .storeS 5⟩] [1, 2, 3, 6, 8, 30, 31, 32])))
     (.reg [⟨some 44, none, [.t 32, .c (.pv (.int .i64 1))], .v (.bin .add)⟩,
       ⟨some 32, none, [.t 44], .v (.mv)⟩] [1, 2, 3, 6, 8, 30, 31, 32]))))
def g478L0 : ACode := .loop [1, 2, 3, 6, 8, 30, 31, 32] g478B0
theorem g478L0_eq {AP : Nat → Option AFunc} {st : St} : cl AP g478L0 st = after (cl AP g478L0) (cl AP g478B0 (norm (restrict [1, 2, 3, 6, 8, 30, 31, 32] st))) := cl_loop
def g478 : AFunc := ⟨3, 48, [.c 6 5 true],
  (.seq
   (.reg [⟨some 3, none, [.t 0], .box 3 5⟩,
     ⟨some 6, none, [], .alloc 6 [.int .i64 0, .str [], .int .i64 0, .int .i64 0, .lst []]⟩] [1, 2, 3, 6])
   (.seq
    (.seq
     (.reg [⟨some 11, none, [.t 1], .v (.mv)⟩,
       ⟨some 12, none, [.t 3], .v (.faddr 1)⟩,
       ⟨some 13, none, [.t 12], .loadL 3 1 1 false⟩,
       ⟨some 14, none, [.t 11, .t 13], .callPS 223⟩,
       ⟨some 7, none, [.t 14], .v (.mv)⟩] [1, 2, 3, 6, 7])
     (.seq
      (.reg [⟨some 15, none, [.t 3], .v (.faddr 0)⟩,
        ⟨some 16, none, [.t 15], .loadL 3 0 1 false⟩,
        ⟨some 17, none, [.t 16, .c (.pv (.int .i64 5))], .v (.bin .eql)⟩,
        ⟨some 18, none, [.t 17], .v (.mv)⟩,
        ⟨some 19, some (18, true), [.t 7], .v (.mv)⟩,
        ⟨some 20, some (18, true), [.t 19, .c (.pv (.int .i64 0))], .v (.bin .geq)⟩,
        ⟨some 21, none, [.t 18, .t 20, .c (.pv (.bool false))], .v (.pick)⟩] [1, 2, 3, 6, 7, 21])
      (.cond (.t 21)
       (.seq
        (.reg [⟨some 22, none, [.t 2], .v (.mv)⟩,
          ⟨some 23, none, [.t 7], .v (.mv)⟩,
          ⟨some 24, none, [.t 22, .t 23], .callV⟩,
          ⟨none, none, [.t 6, .t 24], .storeL 6 0 5⟩] [6])
        .ret)
       .skip)))
    (.seq
     (.reg [⟨some 25, none, [.t 3], .v (.faddr 4)⟩,
       ⟨some 26, none, [.t 25], .loadL 3 4 1 false⟩,
       ⟨some 27, none, [.t 26], .v (.len)⟩,
       ⟨some 28, none, [.t 27, .t 27], .makeS 5 64 true [.int .i64 0, .str [], .int .i64 0, .int .i64 0, .lst []]⟩,
       ⟨some 8, none, [.t 28], .v (.mv)⟩] [1, 2, 3, 6, 8])
     (.seq
      (.seq
       (.reg [⟨some 29, none, [.t 3], .v (.faddr 4)⟩,
         ⟨some 30, none, [.t 29], .loadL 3 4 1 false⟩,
         ⟨some 31, none, [.t 30], .v (.len)⟩,
         ⟨some 32, none, [.c (.pv (.int .i64 0))], .v (.mv)⟩] [1, 2, 3, 6, 8, 30, 31, 32])
       (.block 0
        g478L0))
      (.seq
       (.reg [⟨some 45, none, [.t 8], .v (.mv)⟩,
         ⟨some 46, none, [.t 3], .v (.faddr 4)⟩,
         ⟨none, none, [.t 46, .t 45], .storeL 3 4 1⟩] [3, 6])
       (.seq
        (.reg [⟨some 47, none, [.t 3], .loadL 3 0 5 true⟩,
          ⟨none, none, [.t 6, .t 47], .storeL 6 0 5⟩] [6])
        .ret)))))), none, false⟩

/- typedholes/derive.Signature$1 -/
def g479 : AFunc := ⟨1, 7, [.c 3 5 true],
  (.seq
   (.reg [⟨some 3, none, [], .alloc 3 [.int .i64 0, .str [], .int .i64 0, .int .i64 0, .lst []]⟩] [0, 1, 3])
   (.seq
    (.reg [⟨some 4, none, [.t 0], .v (.mv)⟩,
      ⟨some 5, none, [.t 1], .loadS 1 false⟩,
      ⟨some 6, none, [.c (.pv (.int .i64 3)), .t 4, .t 5], .v (.build [.int .i64 0, .str [], .int .i64 0, .int .i64 0, .lst []] [(0, 1), (2, 1), (3, 1)])⟩,
      ⟨none, none, [.t 3, .t 6], .storeL 3 0 5⟩] [3])
    .ret)), none, false⟩

/- typedholes/tree.Valid -/
def g483B0 : ACode :=
  (.seq
   (.reg [⟨some 130, none, [.t 129, .t 128], .v (.bin .lss)⟩] [1, 127, 128, 129, 130])
   (.seq
    (.cond (.t 130)
     .skip
     (.exit 2))
    (.seq
     (.block 3
      (.seq
       (.reg [⟨some 131, none, [.t 127, .t 129], .v (.iaddr 14)⟩,
         ⟨some 132, none, [.t 131], .v (.loadE 14 true)⟩,
         ⟨some 6, none, [], .alloc 6 [.int .i64 0, .str [], .lst [], .int .i64 0, .int .i64 0, .str [], .int .i64 0, .lst [], .lst [], .int .i64 0, .str [], .int .i64 0, .int .i64 0, .lst []]⟩,
         ⟨none, none, [.t 6, .t 132], .storeL 6 0 14⟩] [1, 6, 127, 128, 129])
       (.seq
        (.reg [⟨some 133, none, [.t 6], .v (.faddr 0)⟩,
          ⟨some 134, none, [.t 133], .loadL 6 0 1 false⟩,
          ⟨some 135, none, [.t 134, .c (.pv (.int .i64 0))], .v (.bin .lss)⟩,
          ⟨some 136, none, [.t 135], .v (.mv)⟩,
          ⟨some 137, some (136, false), [.t 6], .v (.faddr 1)⟩,
          ⟨some 138, some (136, false), [.t 137], .loadL 6 1 1 false⟩,
          ⟨some 139, some (136, false), [.t 138], .callP 495⟩,
          ⟨some 140, some (136, false), [.t 139], .v (.un .not)⟩,
          ⟨some 141, none, [.t 136, .c (.pv (.bool true)), .t 140], .v (.pick)⟩,
          ⟨some 142, none, [.t 141], .v (.mv)⟩,
          ⟨some 143, some (142, false), [.t 6], .v (.faddr 2)⟩,
          ⟨some 144, some (142, false), [.t 143], .loadL 6 2 1 false⟩,
          ⟨some 145, some (142, false), [.t 144], .v (.len)⟩,
          ⟨some 146, some (142, false), [.t 145, .c (.pv (.int .i64 4))], .v (.bin .gtr)⟩,
          ⟨some 147, none, [.t 142, .c (.pv (.bool true)), .t 146], .v (.pick)⟩,
          ⟨some 148, none, [.t 147], .v (.mv)⟩,
          ⟨some 149, some (148, false), [.t 6], .v (.faddr 2)⟩,
          ⟨some 150, some (148, false), [.t 149], .loadL 6 2 1 false⟩,
          ⟨some 151, some (148, false), [.t 150, .c (.fn 499 [])], .callI 498 []⟩,
          ⟨some 152, none, [.t 148, .c (.pv (.bool true)), .t 151], .v (.pick)⟩] [1, 127, 128, 129, 152])
        (.cond (.t 152)
         (.seq
          (.reg [⟨some 2, none, [.c (.pv (.bool false))], .v (.mv)⟩] [2])
          .ret)
         .skip))))
     (.reg [⟨some 153, none, [.t 129, .c (.pv (.int .i64 1))], .v (.bin .add)⟩,
       ⟨some 129, none, [.t 153], .v (.mv)⟩] [1, 127, 128, 129]))))
def g483L0 : ACode := .loop [1, 127, 128, 129] g483B0
theorem g483L0_eq {AP : Nat → Option AFunc} {st : St} : cl AP g483L0 st = after (cl AP g483L0) (cl AP g483B0 (norm (restrict [1, 127, 128, 129] st))) := cl_loop
def g483 : AFunc := ⟨1, 158, [.t 2],
  (.seq
   (.reg [⟨some 1, none, [.t 0], .box 1 11⟩,
     ⟨some 2, none, [.c (.pv (.bool false))], .v (.mv)⟩] [1])
   (.seq
    (.reg [⟨some 3, none, [.c (.pv (.bool false))], .v (.mv)⟩,
      ⟨some 4, none, [.c (.pv (.int .i64 0))], .v (.mv)⟩] [1, 3, 4])
    (.seq
     (.seq
      (.reg [⟨some 7, none, [.t 1], .v (.faddr 0)⟩,
        ⟨some 8, none, [.t 7], .loadL 1 0 1 false⟩] [1, 3, 4, 8])
      (.block 0
       (.seq
        (.seq
         (.reg [⟨some 10, none, [.t 8, .c (.pv (.int .i64 1))], .v (.bin .eql)⟩,
           ⟨some 9, none, [.t 10], .v (.mv)⟩] [1, 3, 4, 8, 9])
         (.cond (.t 9)
          .skip
          (.reg [⟨some 11, none, [.t 8, .c (.pv (.int .i64 2))], .v (.bin .eql)⟩,
            ⟨some 9, none, [.t 11], .v (.mv)⟩] [1, 3, 4, 8, 9])))
        (.cond (.t 9)
         (.reg [⟨some 3, none, [.c (.pv (.bool true))], .v (.mv)⟩] [1, 3, 4])
         (.seq
          (.seq
           (.reg [⟨some 13, none, [.t 8, .c (.pv (.int .i64 3))], .v (.bin .eql)⟩,
             ⟨some 12, none, [.t 13], .v (.mv)⟩] [1, 3, 4, 8, 12])
           (.cond (.t 12)
            .skip
            (.reg [⟨some 14, none, [.t 8, .c (.pv (.int .i64 10))], .v (.bin .eql)⟩,
              ⟨some 12, none, [.t 14], .v (.mv)⟩] [1, 3, 4, 8, 12])))
          (.cond (.t 12)
           .skip
           (.seq
            (.reg [⟨some 16, none, [.t 8, .c (.pv (.int .i64 4))], .v (.bin .eql)⟩,
              ⟨some 15, none, [.t 16], .v (.mv)⟩] [1, 3, 8, 15])
            (.cond (.t 15)
             (.reg [⟨some 3, none, [.c (.pv (.bool true))], .v (.mv)⟩,
               ⟨some 4, none, [.c (.pv (.int .i64 1))], .v (.mv)⟩] [1, 3, 4])
             (.seq
              (.reg [⟨some 18, none, [.t 8, .c (.pv (.int .i64 5))], .v (.bin .eql)⟩,
                ⟨some 17, none, [.t 18], .v (.mv)⟩] [1, 3, 8, 17])
              (.cond (.t 17)
               (.reg [⟨some 4, none, [.c (.pv (.int .i64 2))], .v (.mv)⟩] [1, 3, 4])
               (.seq
                (.seq
                 (.reg [⟨some 20, none, [.t 8, .c (.pv (.int .i64 6))], .v (.bin .eql)⟩,
                   ⟨some 19, none, [.t 20], .v (.mv)⟩] [1, 3, 8, 19])
                 (.cond (.t 19)
                  .skip
                  (.reg [⟨some 21, none, [.t 8, .c (.pv (.int .i64 7))], .v (.bin .eql)⟩,
                    ⟨some 19, none, [.t 21], .v (.mv)⟩] [1, 3, 8, 19])))
                (.cond (.t 19)
                 (.reg [⟨some 3, none, [.c (.pv (.bool true))], .v (.mv)⟩,
                   ⟨some 4, none, [.c (.pv (.int .i64 2))], .v (.mv)⟩] [1, 3, 4])
                 (.seq
                  (.seq
                   (.reg [⟨some 23, none, [.t 8, .c (.pv (.int .i64 8))], .v (.bin .eql)⟩,
                     ⟨some 22, none, [.t 23], .v (.mv)⟩] [1, 3, 8, 22])
                   (.cond (.t 22)
                    .skip
                    (.seq
                     (.reg [⟨some 24, none, [.t 8, .c (.pv (.int .i64 9))], .v (.bin .eql)⟩,
                       ⟨some 22, none, [.t 24], .v (.mv)⟩] [1, 3, 8, 22])
                     (.cond (.t 22)
                      .skip
                      (.reg [⟨some 25, none, [.t 8, .c (.pv (.int .i64 11))], .v (.bin .eql)⟩,
                        ⟨some 22, none, [.t 25], .v (.mv)⟩] [1, 3, 22])))))
                  (.cond (.t 22)
                   (.reg [⟨some 4, none, [.c (.pv (.int .i64 1))], .v (.mv)⟩] [1, 3, 4])
                   (.seq
                    (.reg [⟨some 2, none, [.c (.pv (.bool false))], .v (.mv)⟩] [2])
                    .ret)))))))))))))))
     (.seq
      (.block 1
       (.seq
        (.reg [⟨some 27, none, [.t 1], .v (.faddr 1)⟩,
          ⟨some 28, none, [.t 27], .loadL 1 1 1 false⟩,
          ⟨some 29, none, [.t 28, .c (.pv (.int .i64 0))], .v (.bin .lss)⟩,
          ⟨some 30, none, [.t 29], .v (.mv)⟩,
          ⟨some 31, some (30, false), [.t 1], .v (.faddr 4)⟩,
          ⟨some 32, some (30, false), [.t 31], .loadL 1 4 1 false⟩,
          ⟨some 33, some (30, false), [.t 32], .v (.len)⟩,
          ⟨some 34, some (30, false), [.t 4], .v (.mv)⟩,
          ⟨some 35, some (30, false), [.t 33, .t 34], .v (.bin .neq)⟩,
          ⟨some 36, none, [.t 30, .c (.pv (.bool true)), .t 35], .v (.pick)⟩,
          ⟨some 37, none, [.t 36], .v (.mv)⟩,
          ⟨some 38, some (37, false), [.t 1], .v (.faddr 5)⟩,
          ⟨some 39, some (37, false), [.t 38], .loadL 1 5 1 false⟩,
          ⟨some 40, some (37, false), [.t 39], .v (.len)⟩,
          ⟨some 41, some (37, false), [.t 40, .c (.pv (.int .i64 0))], .v (.bin .gtr)⟩,
          ⟨some 42, some (37, false), [.t 1], .v (.faddr 0)⟩,
          ⟨some 43, some (37, false), [.t 42], .loadL 1 0 1 false⟩,
          ⟨some 44, some (37, false), [.t 43, .c (.pv (.int .i64 8))], .v (.bin .eql)⟩,
          ⟨some 45, some (37, false), [.t 41, .t 44], .v (.beq true)⟩,
          ⟨some 46, none, [.t 37, .c (.pv (.bool true)), .t 45], .v (.pick)⟩,
          ⟨some 26, none, [.t 46], .v (.mv)⟩] [1, 3, 26])
        (.cond (.t 26)
         (.seq
          (.reg [⟨some 2, none, [.c (.pv (.bool false))], .v (.mv)⟩] [2])
          .ret)
         (.seq
          (.reg [⟨some 48, none, [.t 1], .v (.faddr 3)⟩,
            ⟨some 49, none, [.t 48], .loadL 1 3 1 false⟩,
            ⟨some 50, none, [.t 49, .c (.pv (.int .i64 0))], .v (.bin .lss)⟩,
            ⟨some 51, none, [.t 50], .v (.mv)⟩,
            ⟨some 52, some (51, false), [.t 1], .v (.faddr 3)⟩,
            ⟨some 53, some (51, false), [.t 52], .loadL 1 3 1 false⟩,
            ⟨some 54, some (51, false), [.t 53, .c (.pv (.int .i64 999999999))], .v (.bin .gtr)⟩,
            ⟨some 55, none, [.t 51, .c (.pv (.bool true)), .t 54], .v (.pick)⟩,
            ⟨some 56, none, [.t 55], .v (.mv)⟩,
            ⟨some 57, some (56, false), [.t 1], .v (.faddr 3)⟩,
            ⟨some 58, some (56, false), [.t 57], .loadL 1 3 1 false⟩,
            ⟨some 59, some (56, false), [.t 58, .c (.pv (.int .i64 0))], .v (.bin .neq)⟩,
            ⟨some 60, some (56, false), [.t 59], .v (.mv)⟩,
            ⟨some 61, some (60, true), [.t 1], .v (.faddr 0)⟩,
            ⟨some 62, some (60, true), [.t 61], .loadL 1 0 1 false⟩,
            ⟨some 63, some (60, true), [.t 62, .c (.pv (.int .i64 3))], .v (.bin .neq)⟩,
            ⟨some 64, some (56, false), [.t 60, .t 63, .c (.pv (.bool false))], .v (.pick)⟩,
            ⟨some 65, none, [.t 56, .c (.pv (.bool true)), .t 64], .v (.pick)⟩,
            ⟨some 47, none, [.t 65], .v (.mv)⟩] [1, 3, 47])
          (.cond (.t 47)
           (.seq
            (.reg [⟨some 2, none, [.c (.pv (.bool false))], .v (.mv)⟩] [2])
            .ret)
           (.seq
            (.reg [⟨some 67, none, [.t 3], .v (.mv)⟩,
              ⟨some 68, none, [.t 67], .v (.un .not)⟩,
              ⟨some 69, none, [.t 68], .v (.mv)⟩,
              ⟨some 70, some (69, true), [.t 1], .v (.faddr 2)⟩,
              ⟨some 71, some (69, true), [.t 70], .loadL 1 2 1 false⟩,
              ⟨some 72, some (69, true), [.t 71, .c (.pv (.str []))], .v (.bin .neq)⟩,
              ⟨some 73, none, [.t 69, .t 72, .c (.pv (.bool false))], .v (.pick)⟩,
              ⟨some 74, none, [.t 73], .v (.mv)⟩,
              ⟨some 75, some (74, false), [.t 1], .v (.faddr 0)⟩,
              ⟨some 76, some (74, false), [.t 75], .loadL 1 0 1 false⟩,
              ⟨some 77, some (74, false), [.t 76, .c (.pv (.int .i64 2))], .v (.bin .eql)⟩,
              ⟨some 78, some (74, false), [.t 77], .v (.mv)⟩,
              ⟨some 79, some (78, true), [.t 1], .v (.faddr 2)⟩,
              ⟨some 80, some (78, true), [.t 79], .loadL 1 2 1 false⟩,
              ⟨some 81, some (78, true), [.t 80], .callP 495⟩,
              ⟨some 82, some (78, true), [.t 81], .v (.un .not)⟩,
              ⟨some 83, some (74, false), [.t 78, .t 82, .c (.pv (.bool false))], .v (.pick)⟩,
              ⟨some 84, none, [.t 74, .c (.pv (.bool true)), .t 83], .v (.pick)⟩,
              ⟨some 85, none, [.t 84], .v (.mv)⟩,
              ⟨some 86, some (85, false), [.t 3], .v (.mv)⟩,
              ⟨some 87, some (85, false), [.t 86], .v (.mv)⟩,
              ⟨some 88, some (87, true), [.t 1], .v (.faddr 0)⟩,
              ⟨some 89, some (87, true), [.t 88], .loadL 1 0 1 false⟩,
              ⟨some 90, some (87, true), [.t 89, .c (.pv (.int .i64 2))], .v (.bin .neq)⟩,
              ⟨some 91, some (85, false), [.t 87, .t 90, .c (.pv (.bool false))], .v (.pick)⟩,
              ⟨some 92, some (85, false), [.t 91], .v (.mv)⟩,
              ⟨some 93, some (92, true), [.t 1], .v (.faddr 2)⟩,
              ⟨some 94, some (92, true), [.t 93], .loadL 1 2 1 false⟩,
              ⟨some 95, some (92, true), [.t 94], .callP 496⟩,
              ⟨some 96, some (92, true), [.t 95], .v (.un .not)⟩,
              ⟨some 97, some (85, false), [.t 92, .t 96, .c (.pv (.bool false))], .v (.pick)⟩,
              ⟨some 98, none, [.t 85, .c (.pv (.bool true)), .t 97], .v (.pick)⟩,
              ⟨some 66, none, [.t 98], .v (.mv)⟩] [1, 66])
            (.cond (.t 66)
             (.seq
              (.reg [⟨some 2, none, [.c (.pv (.bool false))], .v (.mv)⟩] [2])
              .ret)
             (.seq
              (.reg [⟨some 100, none, [.t 1], .v (.faddr 0)⟩,
                ⟨some 101, none, [.t 100], .loadL 1 0 1 false⟩,
                ⟨some 102, none, [.t 101, .c (.pv (.int .i64 9))], .v (.bin .eql)⟩,
                ⟨some 103, none, [.t 102], .v (.mv)⟩,
                ⟨some 104, some (103, true), [.t 1], .v (.faddr 6)⟩,
                ⟨some 105, some (103, true), [.t 104], .loadL 1 6 5 true⟩,
                ⟨some 106, some (103, true), [.t 105], .callP 29⟩,
                ⟨some 107, some (103, true), [.t 106], .v (.un .not)⟩,
                ⟨some 108, some (103, true), [.t 107], .v (.mv)⟩,
                ⟨some 109, some (108, false), [.t 1], .v (.faddr 6)⟩,
                ⟨some 110, some (108, false), [.t 109], .loadL 1 6 5 true⟩,
                ⟨some 111, some (108, false), [.t 110], .callP 497⟩,
                ⟨some 112, some (108, false), [.t 111], .v (.un .not)⟩,
                ⟨some 113, some (103, true), [.t 108, .c (.pv (.bool true)), .t 112], .v (.pick)⟩,
                ⟨some 114, none, [.t 103, .t 113, .c (.pv (.bool false))], .v (.pick)⟩,
                ⟨some 99, none, [.t 114], .v (.mv)⟩] [1, 99])
              (.cond (.t 99)
               (.seq
                (.reg [⟨some 2, none, [.c (.pv (.bool false))], .v (.mv)⟩] [2])
                .ret)
               (.seq
                (.reg [⟨some 116, none, [.t 1], .v (.faddr 0)⟩,
                  ⟨some 117, none, [.t 116], .loadL 1 0 1 false⟩,
                  ⟨some 118, none, [.t 117, .c (.pv (.int .i64 9))], .v (.bin .neq)⟩,
                  ⟨some 119, none, [.t 118], .v (.mv)⟩,
                  ⟨some 120, some (119, true), [.t 1], .v (.faddr 6)⟩,
                  ⟨some 121, some (119, true), [.t 120], .loadL 1 6 5 true⟩,
                  ⟨some 122, some (119, true), [], .v (.build [.int .i64 0, .str [], .int .i64 0, .int .i64 0, .lst []] [])⟩,
                  ⟨some 123, some (119, true), [.t 121, .t 122], .callP 33⟩,
                  ⟨some 124, some (119, true), [.t 123], .v (.un .not)⟩,
                  ⟨some 125, none, [.t 119, .t 124, .c (.pv (.bool false))], .v (.pick)⟩,
                  ⟨some 115, none, [.t 125], .v (.mv)⟩] [1, 115])
                (.cond (.t 115)
                 (.seq
                  (.reg [⟨some 2, none, [.c (.pv (.bool false))], .v (.mv)⟩] [2])
                  .ret)
                 .skip)))))))))))
      (.seq
       (.seq
        (.reg [⟨some 126, none, [.t 1], .v (.faddr 5)⟩,
          ⟨some 127, none, [.t 126], .loadL 1 5 1 false⟩,
          ⟨some 128, none, [.t 127], .v (.len)⟩,
          ⟨some 129, none, [.c (.pv (.int .i64 0))], .v (.mv)⟩] [1, 127, 128, 129])
        (.block 2
         g483L0))
       (.seq
        (.reg [⟨some 154, none, [.t 1], .loadL 1 0 11 true⟩,
          ⟨some 155, none, [.t 154], .callP 414⟩,
          ⟨some 156, none, [.t 155, .c (.fn 501 [])], .callI 500 []⟩,
          ⟨some 157, none, [.t 156], .v (.un .not)⟩,
          ⟨some 2, none, [.t 157], .v (.mv)⟩] [2])
        .ret)))))), none, false⟩

/- typedholes/derive.formed -/
def g484B0 : ACode :=
  (.seq
   (.reg [⟨some 30, none, [.t 29, .t 28], .v (.bin .lss)⟩] [3, 27, 28, 29, 30])
   (.seq
    (.cond (.t 30)
     .skip
     (.exit 0))
    (.seq
     (.block 1
      (.seq
       (.reg [⟨some 31, none, [.t 29], .v (.mv)⟩,
         ⟨some 32, none, [.t 27, .t 29], .v (.iaddr 11)⟩,
         ⟨some 33, none, [.t 32], .v (.loadE 11 true)⟩,
         ⟨some 7, none, [], .alloc 7 [.int .i64 0, .int .i64 0, .str [], .int .i64 0, .lst [], .lst [], .int .i64 0, .str [], .int .i64 0, .int .i64 0, .lst []]⟩,
         ⟨some 6, none, [.t 31], .v (.mv)⟩,
         ⟨none, none, [.t 7, .t 33], .storeL 7 0 11⟩] [3, 6, 7, 27, 28, 29])
       (.seq
        (.reg [⟨some 34, none, [.t 7], .loadL 7 0 11 true⟩,
          ⟨some 35, none, [.t 3], .v (.faddr 7)⟩,
          ⟨some 36, none, [.t 35], .loadL 3 7 1 false⟩,
          ⟨some 37, none, [.t 6], .v (.mv)⟩,
          ⟨some 38, none, [.t 36, .t 37], .v (.iaddr 8)⟩,
          ⟨some 39, none, [.t 38], .v (.loadE 8 true)⟩,
          ⟨some 40, none, [.t 34, .t 39], .callP 484⟩,
          ⟨some 41, none, [.t 40], .v (.un .not)⟩] [3, 27, 28, 29, 41])
        (.cond (.t 41)
         (.seq
          (.reg [⟨some 4, none, [.c (.pv (.bool false))], .v (.mv)⟩] [4])
          .ret)
         .skip))))
     (.reg [⟨some 42, none, [.t 29, .c (.pv (.int .i64 1))], .v (.bin .add)⟩,
       ⟨some 29, none, [.t 42], .v (.mv)⟩] [3, 27, 28, 29]))))
def g484L0 : ACode := .loop [3, 27, 28, 29] g484B0
theorem g484L0_eq {AP : Nat → Option AFunc} {st : St} : cl AP g484L0 st = after (cl AP g484L0) (cl AP g484B0 (norm (restrict [3, 27, 28, 29] st))) := cl_loop
def g484 : AFunc := ⟨2, 43, [.t 4],
  (.seq
   (.reg [⟨some 2, none, [.t 0], .box 2 11⟩,
     ⟨some 3, none, [.t 1], .box 3 8⟩,
     ⟨some 4, none, [.c (.pv (.bool false))], .v (.mv)⟩] [2, 3])
   (.seq
    (.reg [⟨some 8, none, [.t 2], .loadL 2 0 11 true⟩,
      ⟨some 9, none, [.t 8], .callP 414⟩,
      ⟨some 5, none, [.t 9], .v (.mv)⟩] [3, 5])
    (.seq
     (.seq
      (.reg [⟨some 10, none, [.t 5], .v (.mv)⟩,
        ⟨some 11, none, [.t 10], .v (.len)⟩,
        ⟨some 12, none, [.t 3], .v (.faddr 7)⟩,
        ⟨some 13, none, [.t 12], .loadL 3 7 1 false⟩,
        ⟨some 14, none, [.t 13], .v (.len)⟩,
        ⟨some 15, none, [.t 11, .t 14], .v (.bin .neq)⟩,
        ⟨some 16, none, [.t 15], .v (.mv)⟩,
        ⟨some 17, some (16, false), [.t 3], .v (.faddr 0)⟩,
        ⟨some 18, some (16, false), [.t 17], .loadL 3 0 5 true⟩,
        ⟨some 19, some (16, false), [.t 18], .callP 502⟩,
        ⟨some 20, some (16, false), [.t 19], .v (.un .not)⟩,
        ⟨some 21, none, [.t 16, .c (.pv (.bool true)), .t 20], .v (.pick)⟩,
        ⟨some 22, none, [.t 21], .v (.mv)⟩,
        ⟨some 23, some (22, false), [.t 3], .v (.faddr 5)⟩,
        ⟨some 24, some (22, false), [.t 23], .loadL 3 5 1 false⟩,
        ⟨some 25, some (22, false), [.t 24, .c (.fn 503 [])], .callI 75 []⟩,
        ⟨some 26, none, [.t 22, .c (.pv (.bool true)), .t 25], .v (.pick)⟩] [3, 5, 26])
      (.cond (.t 26)
       (.seq
        (.reg [⟨some 4, none, [.c (.pv (.bool false))], .v (.mv)⟩] [4])
        .ret)
       .skip))
     (.seq
      (.seq
       (.reg [⟨some 27, none, [.t 5], .v (.mv)⟩,
         ⟨some 28, none, [.t 27], .v (.len)⟩,
         ⟨some 29, none, [.c (.pv (.int .i64 0))], .v (.mv)⟩] [3, 27, 28, 29])
       (.block 0
        g484L0))
      (.seq
       (.reg [⟨some 4, none, [.c (.pv (.bool true))], .v (.mv)⟩] [4])
       .ret))))), none, false⟩

/- typedholes/derive.known -/
def g485B0 : ACode :=
  (.seq
   (.reg [⟨some 48, none, [.t 47, .t 46], .v (.bin .lss)⟩] [0, 1, 5, 45, 46, 47, 48])
   (.seq
    (.cond (.t 48)
     .skip
     (.exit 1))
    (.seq
     (.block 2
      (.seq
       (.reg [⟨some 49, none, [.t 47], .v (.mv)⟩,
         ⟨some 50, none, [.t 45, .t 47], .v (.iaddr 11)⟩,
         ⟨some 51, none, [.t 50], .v (.loadE 11 true)⟩,
         ⟨some 13, none, [], .alloc 13 [.int .i64 0, .int .i64 0, .str [], .int .i64 0, .lst [], .lst [], .int .i64 0, .str [], .int .i64 0, .int .i64 0, .lst []]⟩,
         ⟨some 12, none, [.t 49], .v (.mv)⟩,
         ⟨none, none, [.t 13, .t 51], .storeL 13 0 11⟩] [0, 1, 5, 12, 13, 45, 46, 47])
       (.seq
        (.reg [⟨some 52, none, [.t 0], .v (.mv)⟩,
          ⟨some 53, none, [.t 1], .v (.mv)⟩,
          ⟨some 54, none, [.t 53], .clone 1 16⟩,
          ⟨some 55, none, [.t 5], .loadL 5 0 11 true⟩,
          ⟨some 56, none, [.t 12], .v (.mv)⟩,
          ⟨some 57, none, [.t 56], .v (.bslice 1)⟩,
          ⟨some 58, none, [.t 55, .t 57], .callP 404⟩,
          ⟨some 59, none, [.t 54, .t 58], .append 1 16⟩,
          ⟨some 60, none, [.t 13], .loadL 13 0 11 true⟩,
          ⟨some 61, none, [.t 52, .t 59, .t 60], .callP 485⟩,
          ⟨some 62, none, [.t 61], .v (.un .not)⟩] [0, 1, 5, 45, 46, 47, 62])
        (.cond (.t 62)
         (.seq
          (.reg [⟨some 6, none, [.c (.pv (.bool false))], .v (.mv)⟩] [6])
          .ret)
         .skip))))
     (.reg [⟨some 63, none, [.t 47, .c (.pv (.int .i64 1))], .v (.bin .add)⟩,
       ⟨some 47, none, [.t 63], .v (.mv)⟩] [0, 1, 5, 45, 46, 47]))))
def g485L0 : ACode := .loop [0, 1, 5, 45, 46, 47] g485B0
theorem g485L0_eq {AP : Nat → Option AFunc} {st : St} : cl AP g485L0 st = after (cl AP g485L0) (cl AP g485B0 (norm (restrict [0, 1, 5, 45, 46, 47] st))) := cl_loop
def g485 : AFunc := ⟨3, 64, [.t 6],
  (.seq
   (.reg [⟨some 5, none, [.t 2], .box 5 11⟩,
     ⟨some 6, none, [.c (.pv (.bool false))], .v (.mv)⟩] [0, 1, 5])
   (.seq
    (.seq
     (.reg [⟨some 14, none, [.t 5], .v (.faddr 0)⟩,
       ⟨some 15, none, [.t 14], .loadL 5 0 1 false⟩] [0, 1, 5, 15])
     (.block 0
      (.seq
       (.reg [⟨some 17, none, [.t 15, .c (.pv (.int .i64 1))], .v (.bin .eql)⟩,
         ⟨some 16, none, [.t 17], .v (.mv)⟩] [0, 1, 5, 15, 16])
       (.cond (.t 16)
        (.seq
         (.reg [⟨some 18, none, [.t 1], .v (.mv)⟩,
           ⟨some 19, none, [.t 5], .v (.faddr 2)⟩,
           ⟨some 20, none, [.t 19], .loadL 5 2 1 false⟩,
           ⟨some 21, none, [.t 18, .t 20], .callP 214⟩,
           ⟨some 6, none, [.t 21], .v (.mv)⟩] [6])
         .ret)
        (.seq
         (.reg [⟨some 23, none, [.t 15, .c (.pv (.int .i64 2))], .v (.bin .eql)⟩,
           ⟨some 22, none, [.t 23], .v (.mv)⟩] [0, 1, 5, 15, 22])
         (.cond (.t 22)
          (.seq
           (.reg [⟨some 25, none, [.t 0], .v (.mv)⟩,
             ⟨some 26, none, [.t 5], .v (.faddr 2)⟩,
             ⟨some 27, none, [.t 26], .loadL 5 2 1 false⟩,
             ⟨some 28, none, [.t 25, .t 27], .callP 190⟩,
             ⟨some 24, none, [.t 28], .v (.mv)⟩,
             ⟨some 29, none, [.t 24], .v (.ext 0)⟩,
             ⟨some 30, none, [.t 24], .v (.ext 1)⟩,
             ⟨some 31, none, [.t 24], .v (.ext 2)⟩,
             ⟨some 7, none, [.t 29], .v (.mv)⟩,
             ⟨some 8, none, [.t 30], .v (.mv)⟩,
             ⟨some 9, none, [.t 31], .v (.mv)⟩] [9])
           (.seq
            (.reg [⟨some 32, none, [.t 9], .v (.mv)⟩,
              ⟨some 6, none, [.t 32], .v (.mv)⟩] [6])
            .ret))
          (.seq
           (.reg [⟨some 34, none, [.t 15, .c (.pv (.int .i64 8))], .v (.bin .eql)⟩,
             ⟨some 33, none, [.t 34], .v (.mv)⟩] [0, 1, 5, 33])
           (.cond (.t 33)
            (.seq
             (.reg [⟨some 36, none, [.t 0], .v (.mv)⟩,
               ⟨some 37, none, [.t 5], .v (.faddr 5)⟩,
               ⟨some 38, none, [.t 37], .loadL 5 5 1 false⟩,
               ⟨some 39, none, [.t 36, .t 38], .callP 407⟩,
               ⟨some 35, none, [.t 39], .v (.mv)⟩,
               ⟨some 40, none, [.t 35], .v (.ext 0)⟩,
               ⟨some 41, none, [.t 35], .v (.ext 1)⟩,
               ⟨some 10, none, [.t 40], .v (.mv)⟩,
               ⟨some 11, none, [.t 41], .v (.mv)⟩] [0, 1, 5, 11])
             (.seq
              (.reg [⟨some 42, none, [.t 11], .v (.mv)⟩,
                ⟨some 43, none, [.t 42], .v (.un .not)⟩] [0, 1, 5, 43])
              (.cond (.t 43)
               (.seq
                (.reg [⟨some 6, none, [.c (.pv (.bool false))], .v (.mv)⟩] [6])
                .ret)
               .skip)))
            .skip))))))))
    (.seq
     (.seq
      (.reg [⟨some 44, none, [.t 5], .loadL 5 0 11 true⟩,
        ⟨some 45, none, [.t 44], .callP 414⟩,
        ⟨some 46, none, [.t 45], .v (.len)⟩,
        ⟨some 47, none, [.c (.pv (.int .i64 0))], .v (.mv)⟩] [0, 1, 5, 45, 46, 47])
      (.block 1
       g485L0))
     (.seq
      (.reg [⟨some 6, none, [.c (.pv (.bool true))], .v (.mv)⟩] [6])
      .ret)))), none, false⟩

/- typedholes/derive.names -/
def g486B0 : ACode :=
  (.seq
   (.reg [⟨some 9, none, [.t 8, .t 7], .v (.bin .lss)⟩] [3, 6, 7, 8, 9])
   (.seq
    (.cond (.t 9)
     .skip
     (.exit 0))
    (.seq
     (.block 1
      (.seq
       (.reg [⟨some 10, none, [.t 6, .t 8], .v (.iaddr 7)⟩,
         ⟨some 11, none, [.t 10], .v (.loadE 7 true)⟩,
         ⟨some 5, none, [], .alloc 5 [.str [], .int .i64 0, .int .i64 0, .str [], .int .i64 0, .int .i64 0, .lst []]⟩,
         ⟨none, none, [.t 5, .t 11], .storeL 5 0 7⟩] [3, 5, 6, 7, 8])
       (.reg [⟨some 12, none, [.t 3], .v (.mv)⟩,
         ⟨some 13, none, [.t 5], .v (.faddr 0)⟩,
         ⟨some 14, none, [.t 13], .loadL 5 0 1 false⟩,
         ⟨some 15, none, [.t 14], .v (.bslice 1)⟩,
         ⟨some 16, none, [.t 12, .t 15], .append 1 16⟩,
         ⟨some 3, none, [.t 16], .v (.mv)⟩] [3, 6, 7, 8])))
     (.reg [⟨some 17, none, [.t 8, .c (.pv (.int .i64 1))], .v (.bin .add)⟩,
       ⟨some 8, none, [.t 17], .v (.mv)⟩] [3, 6, 7, 8]))))
def g486L0 : ACode := .loop [3, 6, 7, 8] g486B0
theorem g486L0_eq {AP : Nat → Option AFunc} {st : St} : cl AP g486L0 st = after (cl AP g486L0) (cl AP g486B0 (norm (restrict [3, 6, 7, 8] st))) := cl_loop
def g486 : AFunc := ⟨1, 19, [.t 2],
  (.seq
   (.reg [⟨some 2, none, [.c (.clp [])], .v (.mv)⟩] [0])
   (.seq
    (.reg [⟨some 3, none, [.c (.clp [])], .v (.mv)⟩] [0, 3])
    (.seq
     (.seq
      (.reg [⟨some 6, none, [.t 0], .v (.mv)⟩,
        ⟨some 7, none, [.t 6], .v (.len)⟩,
        ⟨some 8, none, [.c (.pv (.int .i64 0))], .v (.mv)⟩] [3, 6, 7, 8])
      (.block 0
       g486L0))
     (.seq
      (.reg [⟨some 18, none, [.t 3], .v (.mv)⟩,
        ⟨some 2, none, [.t 18], .v (.mv)⟩] [2])
      .ret)))), none, false⟩

/- (typedholes/derive.checker).fits -/
def g487B0 : ACode :=
  (.seq
   (.reg [⟨some 167, none, [.t 166, .t 165], .v (.bin .lss)⟩] [1, 4, 6, 7, 12, 18, 20, 164, 165, 166, 167])
   (.seq
    (.cond (.t 167)
     .skip
     (.exit 8))
    (.seq
     (.block 9
      (.seq
       (.reg [⟨some 168, none, [.t 166], .v (.mv)⟩,
         ⟨some 169, none, [.t 164, .t 166], .v (.iaddr 11)⟩,
         ⟨some 170, none, [.t 169], .v (.loadE 11 true)⟩,
         ⟨some 22, none, [], .alloc 22 [.int .i64 0, .int .i64 0, .str [], .int .i64 0, .lst [], .lst [], .int .i64 0, .str [], .int .i64 0, .int .i64 0, .lst []]⟩,
         ⟨some 21, none, [.t 168], .v (.mv)⟩,
         ⟨none, none, [.t 22, .t 170], .storeL 22 0 11⟩] [1, 4, 6, 7, 12, 18, 20, 21, 22, 164, 165, 166])
       (.seq
        (.reg [⟨some 172, none, [.t 4], .loadL 4 0 2 true⟩,
          ⟨some 173, none, [.t 12], .v (.mv)⟩,
          ⟨some 174, none, [.t 22], .loadL 22 0 11 true⟩,
          ⟨some 175, none, [.t 7], .v (.faddr 7)⟩,
          ⟨some 176, none, [.t 175], .loadL 7 7 1 false⟩,
          ⟨some 177, none, [.t 21], .v (.mv)⟩,
          ⟨some 178, none, [.t 176, .t 177], .v (.iaddr 8)⟩,
          ⟨some 179, none, [.t 178], .v (.loadE 8 true)⟩,
          ⟨some 180, none, [.t 172, .t 173, .t 174, .t 179], .callP 487⟩,
          ⟨some 171, none, [.t 180], .v (.mv)⟩,
          ⟨some 181, none, [.t 171], .v (.ext 0)⟩,
          ⟨some 182, none, [.t 171], .v (.ext 1)⟩,
          ⟨some 23, none, [.t 181], .v (.mv)⟩,
          ⟨some 24, none, [.t 182], .v (.mv)⟩] [1, 4, 6, 7, 12, 18, 20, 23, 24, 164, 165, 166])
        (.seq
         (.seq
          (.reg [⟨some 183, none, [.t 24], .v (.mv)⟩,
            ⟨some 184, none, [.t 183], .v (.un .not)⟩] [1, 4, 6, 7, 12, 18, 20, 23, 164, 165, 166, 184])
          (.cond (.t 184)
           (.seq
            (.reg [⟨some 8, none, [.c (.clp [])], .v (.mv)⟩,
              ⟨some 9, none, [.c (.pv (.bool false))], .v (.mv)⟩] [8, 9])
            .ret)
           .skip))
         (.reg [⟨some 185, none, [.t 20], .v (.mv)⟩,
           ⟨some 186, none, [.t 23], .v (.mv)⟩,
           ⟨some 187, none, [.t 185, .t 186], .append 9 112⟩,
           ⟨some 20, none, [.t 187], .v (.mv)⟩] [1, 4, 6, 7, 12, 18, 20, 164, 165, 166])))))
     (.reg [⟨some 188, none, [.t 166, .c (.pv (.int .i64 1))], .v (.bin .add)⟩,
       ⟨some 166, none, [.t 188], .v (.mv)⟩] [1, 4, 6, 7, 12, 18, 20, 164, 165, 166]))))
def g487L0 : ACode := .loop [1, 4, 6, 7, 12, 18, 20, 164, 165, 166] g487B0
theorem g487L0_eq {AP : Nat → Option AFunc} {st : St} : cl AP g487L0 st = after (cl AP g487L0) (cl AP g487B0 (norm (restrict [1, 4, 6, 7, 12, 18, 20, 164, 165, 166] st))) := cl_loop
def g487 : AFunc := ⟨4, 247, [.t 8, .t 9],
  (.seq
   (.reg [⟨some 4, none, [.t 0], .box 4 2⟩,
     ⟨some 6, none, [.t 2], .box 6 11⟩,
     ⟨some 7, none, [.t 3], .box 7 8⟩,
     ⟨some 8, none, [.c (.clp [])], .v (.mv)⟩,
     ⟨some 9, none, [.c (.pv (.bool false))], .v (.mv)⟩] [1, 4, 6, 7])
   (.seq
    (.reg [⟨some 26, none, [.t 6], .v (.faddr 0)⟩,
      ⟨some 27, none, [.t 26], .loadL 6 0 1 false⟩,
      ⟨some 28, none, [.t 27, .c (.pv (.int .i64 6))], .v (.bin .eql)⟩,
      ⟨some 29, none, [.t 28], .v (.mv)⟩,
      ⟨some 30, some (29, false), [.t 6], .v (.faddr 0)⟩,
      ⟨some 31, some (29, false), [.t 30], .loadL 6 0 1 false⟩,
      ⟨some 32, some (29, false), [.t 31, .c (.pv (.int .i64 7))], .v (.bin .eql)⟩,
      ⟨some 33, none, [.t 29, .c (.pv (.bool true)), .t 32], .v (.pick)⟩,
      ⟨some 10, none, [.t 33], .v (.mv)⟩] [1, 4, 6, 7, 10])
    (.seq
     (.reg [⟨some 34, none, [.t 6], .v (.faddr 0)⟩,
       ⟨some 35, none, [.t 34], .loadL 6 0 1 false⟩,
       ⟨some 36, none, [.t 35, .c (.pv (.int .i64 1))], .v (.bin .eql)⟩,
       ⟨some 37, none, [.t 36], .v (.mv)⟩,
       ⟨some 38, some (37, false), [.t 6], .v (.faddr 0)⟩,
       ⟨some 39, some (37, false), [.t 38], .loadL 6 0 1 false⟩,
       ⟨some 40, some (37, false), [.t 39, .c (.pv (.int .i64 2))], .v (.bin .eql)⟩,
       ⟨some 41, none, [.t 37, .c (.pv (.bool true)), .t 40], .v (.pick)⟩,
       ⟨some 42, none, [.t 41], .v (.mv)⟩,
       ⟨some 43, some (42, false), [.t 6], .v (.faddr 0)⟩,
       ⟨some 44, some (42, false), [.t 43], .loadL 6 0 1 false⟩,
       ⟨some 45, some (42, false), [.t 44, .c (.pv (.int .i64 8))], .v (.bin .eql)⟩,
       ⟨some 46, none, [.t 42, .c (.pv (.bool true)), .t 45], .v (.pick)⟩,
       ⟨some 11, none, [.t 46], .v (.mv)⟩] [1, 4, 6, 7, 10, 11])
     (.seq
      (.seq
       (.reg [⟨some 47, none, [.t 10], .v (.mv)⟩,
         ⟨some 48, none, [.t 47], .v (.un .not)⟩,
         ⟨some 49, none, [.t 48], .v (.mv)⟩,
         ⟨some 50, some (49, true), [.t 7], .v (.faddr 6)⟩,
         ⟨some 51, some (49, true), [.t 50], .loadL 7 6 1 false⟩,
         ⟨some 52, some (49, true), [.t 51], .v (.len)⟩,
         ⟨some 53, some (49, true), [.t 52, .c (.pv (.int .i64 0))], .v (.bin .gtr)⟩,
         ⟨some 54, none, [.t 49, .t 53, .c (.pv (.bool false))], .v (.pick)⟩,
         ⟨some 55, none, [.t 54], .v (.mv)⟩,
         ⟨some 56, some (55, false), [.t 11], .v (.mv)⟩,
         ⟨some 57, some (55, false), [.t 56], .v (.un .not)⟩,
         ⟨some 58, some (55, false), [.t 57], .v (.mv)⟩,
         ⟨some 59, some (58, true), [.t 7], .v (.faddr 5)⟩,
         ⟨some 60, some (58, true), [.t 59], .loadL 7 5 1 false⟩,
         ⟨some 61, some (58, true), [.t 60], .v (.len)⟩,
         ⟨some 62, some (58, true), [.t 61, .c (.pv (.int .i64 0))], .v (.bin .gtr)⟩,
         ⟨some 63, some (55, false), [.t 58, .t 62, .c (.pv (.bool false))], .v (.pick)⟩,
         ⟨some 64, none, [.t 55, .c (.pv (.bool true)), .t 63], .v (.pick)⟩] [1, 4, 6, 7, 64])
       (.cond (.t 64)
        (.seq
         (.reg [⟨some 8, none, [.c (.clp [])], .v (.mv)⟩,
           ⟨some 9, none, [.c (.pv (.bool false))], .v (.mv)⟩] [8, 9])
         .ret)
        .skip))
      (.seq
       (.reg [⟨some 65, none, [.t 1], .v (.mv)⟩,
         ⟨some 12, none, [.t 65], .v (.mv)⟩] [1, 4, 6, 7, 12])
       (.seq
        (.seq
         (.reg [⟨some 66, none, [.t 6], .v (.faddr 0)⟩,
           ⟨some 67, none, [.t 66], .loadL 6 0 1 false⟩] [1, 4, 6, 7, 12, 67])
         (.block 0
          (.seq
           (.block 7
            (.seq
             (.block 6
              (.seq
               (.block 5
                (.seq
                 (.block 4
                  (.seq
                   (.block 3
                    (.seq
                     (.block 2
                      (.seq
                       (.block 1
                        (.seq
                         (.seq
                          (.seq
                           (.reg [⟨some 69, none, [.t 67, .c (.pv (.int .i64 1))], .v (.bin .eql)⟩,
                             ⟨some 68, none, [.t 69], .v (.mv)⟩] [1, 4, 6, 7, 12, 67, 68])
                           (.cond (.t 68)
                            (.exit 1)
                            .skip))
                          (.seq
                           (.seq
                            (.reg [⟨some 71, none, [.t 67, .c (.pv (.int .i64 2))], .v (.bin .eql)⟩,
                              ⟨some 70, none, [.t 71], .v (.mv)⟩] [1, 4, 6, 7, 12, 67, 70])
                            (.cond (.t 70)
                             (.exit 2)
                             .skip))
                           (.seq
                            (.seq
                             (.reg [⟨some 73, none, [.t 67, .c (.pv (.int .i64 3))], .v (.bin .eql)⟩,
                               ⟨some 72, none, [.t 73], .v (.mv)⟩] [1, 4, 6, 7, 12, 67, 72])
                             (.cond (.t 72)
                              (.exit 3)
                              .skip))
                            (.seq
                             (.seq
                              (.reg [⟨some 75, none, [.t 67, .c (.pv (.int .i64 10))], .v (.bin .eql)⟩,
                                ⟨some 74, none, [.t 75], .v (.mv)⟩] [1, 4, 6, 7, 12, 67, 74])
                              (.cond (.t 74)
                               (.exit 4)
                               .skip))
                             (.seq
                              (.seq
                               (.reg [⟨some 77, none, [.t 67, .c (.pv (.int .i64 8))], .v (.bin .eql)⟩,
                                 ⟨some 76, none, [.t 77], .v (.mv)⟩] [1, 4, 6, 7, 12, 67, 76])
                               (.cond (.t 76)
                                (.exit 5)
                                .skip))
                              (.seq
                               (.seq
                                (.reg [⟨some 79, none, [.t 67, .c (.pv (.int .i64 7))], .v (.bin .eql)⟩,
                                  ⟨some 78, none, [.t 79], .v (.mv)⟩] [1, 4, 6, 7, 12, 67, 78])
                                (.cond (.t 78)
                                 (.exit 6)
                                 .skip))
                               (.seq
                                (.reg [⟨some 81, none, [.t 67, .c (.pv (.int .i64 6))], .v (.bin .eql)⟩,
                                  ⟨some 80, none, [.t 81], .v (.mv)⟩] [1, 4, 6, 7, 12, 80])
                                (.cond (.t 80)
                                 (.exit 7)
                                 .skip))))))))
                         (.exit 0)))
                       (.seq
                        (.seq
                         (.reg [⟨some 83, none, [.t 1], .v (.mv)⟩,
                           ⟨some 84, none, [.t 6], .v (.faddr 2)⟩,
                           ⟨some 85, none, [.t 84], .loadL 6 2 1 false⟩,
                           ⟨some 86, none, [.t 83, .t 85], .callP 180⟩,
                           ⟨some 82, none, [.t 86], .v (.mv)⟩,
                           ⟨some 87, none, [.t 82], .v (.ext 0)⟩,
                           ⟨some 88, none, [.t 82], .v (.ext 1)⟩,
                           ⟨some 13, none, [], .alloc 13 [.int .i64 0, .int .i64 0, .str [], .int .i64 0, .int .i64 0, .lst []]⟩,
                           ⟨none, none, [.t 13, .t 87], .storeL 13 0 6⟩,
                           ⟨some 14, none, [.t 88], .v (.mv)⟩] [7, 13, 14])
                         (.seq
                          (.reg [⟨some 89, none, [.t 14], .v (.mv)⟩,
                            ⟨some 90, none, [.t 89], .v (.mv)⟩,
                            ⟨some 91, some (90, true), [.t 13], .loadL 13 0 6 true⟩,
                            ⟨some 92, some (90, true), [.t 7], .loadL 7 0 8 true⟩,
                            ⟨some 93, some (90, true), [.t 91, .t 92], .callP 504⟩,
                            ⟨some 94, none, [.t 90, .t 93, .c (.pv (.bool false))], .v (.pick)⟩,
                            ⟨some 8, none, [.c (.clp [])], .v (.mv)⟩,
                            ⟨some 9, none, [.t 94], .v (.mv)⟩] [8, 9])
                          .ret))
                        (.exit 0))))
                     (.seq
                      (.seq
                       (.reg [⟨some 96, none, [.t 4], .v (.faddr 0)⟩,
                         ⟨some 97, none, [.t 96], .loadL 4 0 1 false⟩,
                         ⟨some 98, none, [.t 6], .v (.faddr 2)⟩,
                         ⟨some 99, none, [.t 98], .loadL 6 2 1 false⟩,
                         ⟨some 100, none, [.t 97, .t 99], .callP 192⟩,
                         ⟨some 95, none, [.t 100], .v (.mv)⟩,
                         ⟨some 101, none, [.t 95], .v (.ext 0)⟩,
                         ⟨some 102, none, [.t 95], .v (.ext 1)⟩,
                         ⟨some 15, none, [], .alloc 15 [.int .i64 0, .int .i64 0, .str [], .int .i64 0, .int .i64 0, .lst []]⟩,
                         ⟨none, none, [.t 15, .t 101], .storeL 15 0 6⟩,
                         ⟨some 16, none, [.t 102], .v (.mv)⟩] [7, 15, 16])
                       (.seq
                        (.reg [⟨some 103, none, [.t 16], .v (.mv)⟩,
                          ⟨some 104, none, [.t 103], .v (.mv)⟩,
                          ⟨some 105, some (104, true), [.t 15], .loadL 15 0 6 true⟩,
                          ⟨some 106, some (104, true), [.t 7], .loadL 7 0 8 true⟩,
                          ⟨some 107, some (104, true), [.t 105, .t 106], .callP 504⟩,
                          ⟨some 108, none, [.t 104, .t 107, .c (.pv (.bool false))], .v (.pick)⟩,
                          ⟨some 8, none, [.c (.clp [])], .v (.mv)⟩,
                          ⟨some 9, none, [.t 108], .v (.mv)⟩] [8, 9])
                        .ret))
                      (.exit 0))))
                   (.seq
                    (.seq
                     (.reg [⟨some 109, none, [.t 7], .v (.faddr 0)⟩,
                       ⟨some 110, none, [.t 109], .loadL 7 0 5 true⟩,
                       ⟨some 111, none, [], .callP 505⟩,
                       ⟨some 112, none, [.t 110, .t 111], .callP 33⟩,
                       ⟨some 8, none, [.c (.clp [])], .v (.mv)⟩,
                       ⟨some 9, none, [.t 112], .v (.mv)⟩] [8, 9])
                     .ret)
                    (.exit 0))))
                 (.seq
                  (.seq
                   (.reg [⟨some 113, none, [.t 4], .loadL 4 0 2 true⟩,
                     ⟨some 114, none, [.t 1], .v (.mv)⟩,
                     ⟨some 115, none, [.t 6], .loadL 6 0 11 true⟩,
                     ⟨some 116, none, [.t 7], .loadL 7 0 8 true⟩,
                     ⟨some 117, none, [.t 113, .t 114, .t 115, .t 116], .callP 506⟩,
                     ⟨some 118, none, [.t 117], .v (.build [.int .i64 0, .int .i64 0, .lst [], .int .i64 0, .str [], .int .i64 0, .int .i64 0, .lst [], .bool false] [(0, 8)])⟩,
                     ⟨some 119, none, [.t 118], .v (.bslice 9)⟩,
                     ⟨some 8, none, [.t 119], .v (.mv)⟩,
                     ⟨some 9, none, [.c (.pv (.bool true))], .v (.mv)⟩] [8, 9])
                   .ret)
                  (.exit 0))))
               (.seq
                (.seq
                 (.reg [⟨some 120, none, [.t 4], .loadL 4 0 2 true⟩,
                   ⟨some 121, none, [.t 1], .v (.mv)⟩,
                   ⟨some 122, none, [.t 6], .loadL 6 0 11 true⟩,
                   ⟨some 123, none, [.t 7], .loadL 7 0 8 true⟩,
                   ⟨some 124, none, [.t 120, .t 121, .t 122, .t 123], .callI 507 []⟩,
                   ⟨some 125, none, [.t 124], .v (.ext 0)⟩,
                   ⟨some 126, none, [.t 124], .v (.ext 1)⟩,
                   ⟨some 8, none, [.t 125], .v (.mv)⟩,
                   ⟨some 9, none, [.t 126], .v (.mv)⟩] [8, 9])
                 .ret)
                (.exit 0))))
             (.reg [⟨some 127, none, [.t 1], .v (.mv)⟩,
               ⟨some 128, none, [.t 6], .v (.faddr 2)⟩,
               ⟨some 129, none, [.t 128], .loadL 6 2 1 false⟩,
               ⟨some 130, none, [.t 7], .v (.faddr 7)⟩,
               ⟨some 131, none, [.t 130], .loadL 7 7 1 false⟩,
               ⟨some 132, none, [.t 131, .c (.pv (.int .i64 0))], .v (.iaddr 8)⟩,
               ⟨some 133, none, [.t 132], .v (.faddr 0)⟩,
               ⟨some 134, none, [.t 133], .v (.loadE 5 true)⟩,
               ⟨some 135, none, [.t 134], .callP 438⟩,
               ⟨some 136, none, [.t 127, .t 129, .t 135], .callP 177⟩,
               ⟨some 12, none, [.t 136], .v (.mv)⟩] [1, 4, 6, 7, 12])))
           (.seq
            (.seq
             (.reg [⟨some 137, none, [.t 4], .loadL 4 0 2 true⟩,
               ⟨some 138, none, [.t 1], .v (.mv)⟩,
               ⟨some 139, none, [.t 12], .v (.mv)⟩,
               ⟨some 140, none, [.t 6], .loadL 6 0 11 true⟩,
               ⟨some 141, none, [.t 7], .loadL 7 0 8 true⟩,
               ⟨some 142, none, [.t 137, .t 138, .t 139, .t 140, .t 141], .callI 508 []⟩,
               ⟨some 143, none, [.t 142], .v (.ext 0)⟩,
               ⟨some 144, none, [.t 142], .v (.ext 1)⟩,
               ⟨some 8, none, [.t 143], .v (.mv)⟩,
               ⟨some 9, none, [.t 144], .v (.mv)⟩] [8, 9])
             .ret)
            (.exit 0)))))
        (.seq
         (.reg [⟨some 17, none, [], .alloc 17 [.int .i64 0, .str [], .int .i64 0, .int .i64 0, .lst []]⟩,
           ⟨some 18, none, [], .alloc 18 [.int .i64 0, .str [], .int .i64 0, .int .i64 0, .lst []]⟩] [1, 4, 6, 7, 12, 17, 18])
         (.seq
          (.reg [⟨some 19, none, [.c (.pv (.bool false))], .v (.mv)⟩] [1, 4, 6, 7, 12, 17, 18])
          (.seq
           (.seq
            (.reg [⟨some 145, none, [.t 6], .v (.faddr 0)⟩,
              ⟨some 146, none, [.t 145], .loadL 6 0 1 false⟩,
              ⟨some 147, none, [.t 146, .c (.pv (.int .i64 4))], .v (.bin .eql)⟩] [1, 4, 6, 7, 12, 17, 18, 147])
            (.cond (.t 147)
             (.seq
              (.seq
               (.reg [⟨some 149, none, [.t 7], .v (.faddr 0)⟩,
                 ⟨some 150, none, [.t 149], .loadL 7 0 5 true⟩,
                 ⟨some 151, none, [.t 150], .callP 509⟩,
                 ⟨some 148, none, [.t 151], .v (.mv)⟩,
                 ⟨some 152, none, [.t 148], .v (.ext 0)⟩,
                 ⟨some 153, none, [.t 148], .v (.ext 1)⟩,
                 ⟨some 154, none, [.t 148], .v (.ext 2)⟩,
                 ⟨none, none, [.t 17, .t 152], .storeL 17 0 5⟩,
                 ⟨none, none, [.t 18, .t 153], .storeL 18 0 5⟩,
                 ⟨some 19, none, [.t 154], .v (.mv)⟩] [1, 4, 6, 7, 17, 18, 19])
               (.seq
                (.reg [⟨some 155, none, [.t 19], .v (.mv)⟩,
                  ⟨some 156, none, [.t 155], .v (.un .not)⟩] [1, 4, 6, 7, 17, 18, 156])
                (.cond (.t 156)
                 (.seq
                  (.reg [⟨some 8, none, [.c (.clp [])], .v (.mv)⟩,
                    ⟨some 9, none, [.c (.pv (.bool false))], .v (.mv)⟩] [8, 9])
                  .ret)
                 .skip)))
              (.reg [⟨some 157, none, [.t 1], .v (.mv)⟩,
                ⟨some 158, none, [.t 6], .v (.faddr 2)⟩,
                ⟨some 159, none, [.t 158], .loadL 6 2 1 false⟩,
                ⟨some 160, none, [.t 17], .loadL 17 0 5 true⟩,
                ⟨some 161, none, [.t 160], .callP 438⟩,
                ⟨some 162, none, [.t 157, .t 159, .t 161], .callP 177⟩,
                ⟨some 12, none, [.t 162], .v (.mv)⟩] [1, 4, 6, 7, 12, 18]))
             .skip))
           (.seq
            (.reg [⟨some 20, none, [.c (.clp [])], .v (.mv)⟩] [1, 4, 6, 7, 12, 18, 20])
            (.seq
             (.seq
              (.reg [⟨some 163, none, [.t 6], .v (.faddr 4)⟩,
                ⟨some 164, none, [.t 163], .loadL 6 4 1 false⟩,
                ⟨some 165, none, [.t 164], .v (.len)⟩,
                ⟨some 166, none, [.c (.pv (.int .i64 0))], .v (.mv)⟩] [1, 4, 6, 7, 12, 18, 20, 164, 165, 166])
              (.block 8
               g487L0))
             (.seq
              (.seq
               (.reg [⟨some 189, none, [.t 7], .v (.faddr 7)⟩,
                 ⟨some 190, none, [.t 189], .loadL 7 7 1 false⟩,
                 ⟨some 191, none, [.t 190], .v (.len)⟩,
                 ⟨some 192, none, [.t 191, .c (.pv (.int .i64 0))], .v (.bin .eql)⟩] [1, 4, 6, 7, 18, 20, 192])
               (.cond (.t 192)
                (.seq
                 (.reg [⟨some 8, none, [.c (.clp [])], .v (.mv)⟩,
                   ⟨some 9, none, [.c (.pv (.bool false))], .v (.mv)⟩] [8, 9])
                 .ret)
                .skip))
              (.seq
               (.reg [⟨some 193, none, [.t 7], .v (.faddr 7)⟩,
                 ⟨some 194, none, [.t 193], .loadL 7 7 1 false⟩,
                 ⟨some 195, none, [.t 194, .c (.pv (.int .i64 0))], .v (.iaddr 8)⟩,
                 ⟨some 196, none, [.t 195], .v (.faddr 0)⟩,
                 ⟨some 197, none, [.t 196], .v (.loadE 5 true)⟩,
                 ⟨some 25, none, [], .alloc 25 [.int .i64 0, .str [], .int .i64 0, .int .i64 0, .lst []]⟩,
                 ⟨none, none, [.t 25, .t 197], .storeL 25 0 5⟩] [1, 4, 6, 7, 18, 20, 25])
               (.seq
                (.seq
                 (.reg [⟨some 198, none, [.t 6], .v (.faddr 0)⟩,
                   ⟨some 199, none, [.t 198], .loadL 6 0 1 false⟩] [1, 4, 6, 7, 18, 20, 25, 199])
                 (.block 10
                  (.seq
                   (.reg [⟨some 201, none, [.t 199, .c (.pv (.int .i64 4))], .v (.bin .eql)⟩,
                     ⟨some 200, none, [.t 201], .v (.mv)⟩] [1, 4, 6, 7, 18, 20, 25, 199, 200])
                   (.cond (.t 200)
                    (.seq
                     (.reg [⟨some 202, none, [.t 20], .v (.mv)⟩,
                       ⟨some 203, none, [.t 18], .loadL 18 0 5 true⟩,
                       ⟨some 204, none, [.t 25], .loadL 25 0 5 true⟩,
                       ⟨some 205, none, [.t 203, .t 204], .callP 33⟩,
                       ⟨some 8, none, [.t 202], .v (.mv)⟩,
                       ⟨some 9, none, [.t 205], .v (.mv)⟩] [8, 9])
                     .ret)
                    (.seq
                     (.reg [⟨some 207, none, [.t 199, .c (.pv (.int .i64 5))], .v (.bin .eql)⟩,
                       ⟨some 206, none, [.t 207], .v (.mv)⟩] [1, 4, 6, 7, 20, 25, 199, 206])
                     (.cond (.t 206)
                      (.seq
                       (.reg [⟨some 208, none, [.t 20], .v (.mv)⟩,
                         ⟨some 209, none, [.t 25], .loadL 25 0 5 true⟩,
                         ⟨some 210, none, [.t 7], .v (.faddr 7)⟩,
                         ⟨some 211, none, [.t 210], .loadL 7 7 1 false⟩,
                         ⟨some 212, none, [.t 211, .c (.pv (.int .i64 1))], .v (.iaddr 8)⟩,
                         ⟨some 213, none, [.t 212], .v (.faddr 0)⟩,
                         ⟨some 214, none, [.t 213], .v (.loadE 5 true)⟩,
                         ⟨some 215, none, [.t 7], .v (.faddr 0)⟩,
                         ⟨some 216, none, [.t 215], .loadL 7 0 5 true⟩,
                         ⟨some 217, none, [.t 214, .t 216], .callP 220⟩,
                         ⟨some 218, none, [.t 209, .t 217], .callP 33⟩,
                         ⟨some 8, none, [.t 208], .v (.mv)⟩,
                         ⟨some 9, none, [.t 218], .v (.mv)⟩] [8, 9])
                       .ret)
                      (.seq
                       (.reg [⟨some 220, none, [.t 199, .c (.pv (.int .i64 9))], .v (.bin .eql)⟩,
                         ⟨some 219, none, [.t 220], .v (.mv)⟩] [1, 4, 6, 7, 20, 25, 199, 219])
                       (.cond (.t 219)
                        (.seq
                         (.reg [⟨some 221, none, [.t 20], .v (.mv)⟩,
                           ⟨some 222, none, [.t 7], .v (.faddr 0)⟩,
                           ⟨some 223, none, [.t 222], .loadL 7 0 5 true⟩,
                           ⟨some 224, none, [.t 25], .loadL 25 0 5 true⟩,
                           ⟨some 225, none, [.t 223, .t 224], .callP 33⟩,
                           ⟨some 226, none, [.t 225], .v (.mv)⟩,
                           ⟨some 227, some (226, true), [.t 25], .loadL 25 0 5 true⟩,
                           ⟨some 228, some (226, true), [.t 6], .v (.faddr 6)⟩,
                           ⟨some 229, some (226, true), [.t 228], .loadL 6 6 5 true⟩,
                           ⟨some 230, some (226, true), [.t 227, .t 229], .callP 33⟩,
                           ⟨some 231, none, [.t 226, .t 230, .c (.pv (.bool false))], .v (.pick)⟩,
                           ⟨some 8, none, [.t 221], .v (.mv)⟩,
                           ⟨some 9, none, [.t 231], .v (.mv)⟩] [8, 9])
                         .ret)
                        (.seq
                         (.reg [⟨some 233, none, [.t 199, .c (.pv (.int .i64 11))], .v (.bin .eql)⟩,
                           ⟨some 232, none, [.t 233], .v (.mv)⟩] [1, 4, 6, 7, 20, 25, 232])
                         (.cond (.t 232)
                          (.seq
                           (.reg [⟨some 234, none, [.t 20], .v (.mv)⟩,
                             ⟨some 235, none, [.t 4], .loadL 4 0 2 true⟩,
                             ⟨some 236, none, [.t 1], .v (.mv)⟩,
                             ⟨some 237, none, [.t 6], .loadL 6 0 11 true⟩,
                             ⟨some 238, none, [.t 7], .loadL 7 0 8 true⟩,
                             ⟨some 239, none, [.t 235, .t 236, .t 237, .t 238], .callP 506⟩,
                             ⟨some 240, none, [.t 239, .c (.pv (.bool true))], .v (.build [.int .i64 0, .int .i64 0, .lst [], .int .i64 0, .str [], .int .i64 0, .int .i64 0, .lst [], .bool false] [(0, 8), (8, 1)])⟩,
                             ⟨some 241, none, [.t 240], .v (.bslice 9)⟩,
                             ⟨some 242, none, [.t 234, .t 241], .append 9 112⟩,
                             ⟨some 243, none, [.t 7], .v (.faddr 0)⟩,
                             ⟨some 244, none, [.t 243], .loadL 7 0 5 true⟩,
                             ⟨some 245, none, [.t 25], .loadL 25 0 5 true⟩,
                             ⟨some 246, none, [.t 244, .t 245], .callP 33⟩,
                             ⟨some 8, none, [.t 242], .v (.mv)⟩,
                             ⟨some 9, none, [.t 246], .v (.mv)⟩] [8, 9])
                           .ret)
                          .skip))))))))))
                (.seq
                 (.reg [⟨some 8, none, [.c (.clp [])], .v (.mv)⟩,
                   ⟨some 9, none, [.c (.pv (.bool false))], .v (.mv)⟩] [8, 9])
                 .ret))))))))))))))), none, false⟩

/- typedholes/derive.generalizes -/
def g493B0 : ACode :=
  (.seq
   (.reg [⟨some 24, none, [.t 23, .t 22], .v (.bin .lss)⟩] [0, 9, 10, 21, 22, 23, 24])
   (.seq
    (.cond (.t 24)
     .skip
     (.exit 0))
    (.seq
     (.block 1
      (.seq
       (.reg [⟨some 25, none, [.t 23], .v (.mv)⟩,
         ⟨some 26, none, [.t 21, .t 23], .v (.iaddr 1)⟩,
         ⟨some 27, none, [.t 26], .v (.loadE 1 false)⟩,
         ⟨some 11, none, [.t 25], .v (.mv)⟩,
         ⟨some 12, none, [.t 27], .v (.mv)⟩] [0, 9, 10, 11, 12, 21, 22, 23])
       (.seq
        (.reg [⟨some 28, none, [.t 0], .v (.mv)⟩,
          ⟨some 29, none, [.t 11], .v (.mv)⟩,
          ⟨some 30, none, [.t 28, .t 29], .v (.slice false 1 false true false)⟩,
          ⟨some 31, none, [.t 12], .v (.mv)⟩,
          ⟨some 32, none, [.t 30, .t 31], .callP 98⟩,
          ⟨some 33, none, [.t 32], .v (.mv)⟩,
          ⟨some 34, some (33, false), [.t 9], .v (.mv)⟩,
          ⟨some 35, some (33, false), [.t 12], .v (.mv)⟩,
          ⟨some 36, some (33, false), [.t 34, .t 35], .callP 98⟩,
          ⟨some 37, some (33, false), [.t 36], .v (.un .not)⟩,
          ⟨some 38, none, [.t 33, .c (.pv (.bool true)), .t 37], .v (.pick)⟩,
          ⟨some 39, none, [.t 38], .v (.mv)⟩,
          ⟨some 40, some (39, false), [.t 10], .v (.mv)⟩,
          ⟨some 41, some (39, false), [.t 12], .v (.mv)⟩,
          ⟨some 42, some (39, false), [.t 40, .t 41], .callP 98⟩,
          ⟨some 43, none, [.t 39, .c (.pv (.bool true)), .t 42], .v (.pick)⟩] [0, 9, 10, 21, 22, 23, 43])
        (.cond (.t 43)
         (.seq
          (.reg [⟨some 8, none, [.c (.pv (.bool false))], .v (.mv)⟩] [8])
          .ret)
         .skip))))
     (.reg [⟨some 44, none, [.t 23, .c (.pv (.int .i64 1))], .v (.bin .add)⟩,
       ⟨some 23, none, [.t 44], .v (.mv)⟩] [0, 9, 10, 21, 22, 23]))))
def g493L0 : ACode := .loop [0, 9, 10, 21, 22, 23] g493B0
theorem g493L0_eq {AP : Nat → Option AFunc} {st : St} : cl AP g493L0 st = after (cl AP g493L0) (cl AP g493B0 (norm (restrict [0, 9, 10, 21, 22, 23] st))) := cl_loop
def g493 : AFunc := ⟨4, 45, [.t 8],
  (.seq
   (.reg [⟨some 5, none, [.t 1], .box 5 5⟩,
     ⟨some 8, none, [.c (.pv (.bool false))], .v (.mv)⟩] [0, 2, 3, 5])
   (.seq
    (.reg [⟨some 13, none, [.t 5], .loadL 5 0 5 true⟩,
      ⟨some 14, none, [.t 13], .v (.bslice 5)⟩,
      ⟨some 15, none, [.t 14], .callP 55⟩,
      ⟨some 16, none, [.t 2], .v (.mv)⟩,
      ⟨some 17, none, [.t 16], .callI 199 []⟩,
      ⟨some 18, none, [.t 3], .v (.mv)⟩,
      ⟨some 19, none, [.t 18], .callP 513⟩,
      ⟨some 20, none, [.t 17, .t 19], .append 1 8⟩,
      ⟨some 9, none, [.t 15], .v (.mv)⟩,
      ⟨some 10, none, [.t 20], .v (.mv)⟩] [0, 9, 10])
    (.seq
     (.seq
      (.reg [⟨some 21, none, [.t 0], .v (.mv)⟩,
        ⟨some 22, none, [.t 21], .v (.len)⟩,
        ⟨some 23, none, [.c (.pv (.int .i64 0))], .v (.mv)⟩] [0, 9, 10, 21, 22, 23])
      (.block 0
       g493L0))
     (.seq
      (.reg [⟨some 8, none, [.c (.pv (.bool true))], .v (.mv)⟩] [8])
      .ret)))), none, false⟩

/- typedholes/tree.upper -/
def g495 : AFunc := ⟨1, 6, [.t 2],
  (.seq
   (.reg [⟨some 2, none, [.c (.pv (.bool false))], .v (.mv)⟩] [0])
   (.seq
    (.reg [⟨some 3, none, [.t 0], .v (.mv)⟩,
      ⟨some 4, none, [.c (.pv (.int .i64 4)), .t 3], .v (.build [.int .i64 0, .str [], .int .i64 0, .int .i64 0, .lst []] [(0, 1), (1, 1)])⟩,
      ⟨some 5, none, [.t 4], .callP 29⟩,
      ⟨some 2, none, [.t 5], .v (.mv)⟩] [2])
    .ret)), none, false⟩

/- typedholes/tree.lower -/
def g496 : AFunc := ⟨1, 6, [.t 2],
  (.seq
   (.reg [⟨some 2, none, [.c (.pv (.bool false))], .v (.mv)⟩] [0])
   (.seq
    (.reg [⟨some 3, none, [.t 0], .v (.mv)⟩,
      ⟨some 4, none, [.c (.pv (.int .i64 5)), .t 3], .v (.build [.int .i64 0, .str [], .int .i64 0, .int .i64 0, .lst []] [(0, 1), (1, 1)])⟩,
      ⟨some 5, none, [.t 4], .callP 29⟩,
      ⟨some 2, none, [.t 5], .v (.mv)⟩] [2])
    .ret)), none, false⟩

/- typedholes/tree.written -/
def g497 : AFunc := ⟨1, 15, [.t 2],
  (.seq
   (.reg [⟨some 1, none, [.t 0], .box 1 5⟩,
     ⟨some 2, none, [.c (.pv (.bool false))], .v (.mv)⟩] [1])
   (.seq
    (.seq
     (.reg [⟨some 3, none, [.t 1], .v (.faddr 0)⟩,
       ⟨some 4, none, [.t 3], .loadL 1 0 1 false⟩,
       ⟨some 5, none, [.t 4, .c (.pv (.int .i64 4))], .v (.bin .neq)⟩,
       ⟨some 6, none, [.t 5], .v (.mv)⟩,
       ⟨some 7, some (6, true), [.t 1], .v (.faddr 0)⟩,
       ⟨some 8, some (6, true), [.t 7], .loadL 1 0 1 false⟩,
       ⟨some 9, some (6, true), [.t 8, .c (.pv (.int .i64 5))], .v (.bin .neq)⟩,
       ⟨some 10, none, [.t 6, .t 9, .c (.pv (.bool false))], .v (.pick)⟩] [1, 10])
     (.cond (.t 10)
      (.seq
       (.reg [⟨some 2, none, [.c (.pv (.bool false))], .v (.mv)⟩] [2])
       .ret)
      .skip))
    (.seq
     (.reg [⟨some 11, none, [.t 1], .v (.faddr 4)⟩,
       ⟨some 12, none, [.t 11], .loadL 1 4 1 false⟩,
       ⟨some 13, none, [.t 12, .c (.fn 515 [])], .callI 75 []⟩,
       ⟨some 14, none, [.t 13], .v (.un .not)⟩,
       ⟨some 2, none, [.t 14], .v (.mv)⟩] [2])
     .ret))), none, false⟩

/- slices.ContainsFunc[[]string,string] -/
def g498 : AFunc := ⟨2, 9, [.t 4],
  (.seq
   (.reg [⟨some 4, none, [.c (.pv (.bool false))], .v (.mv)⟩] [0, 1])
   (.seq
    (.reg [⟨some 5, none, [.t 0], .v (.mv)⟩,
      ⟨some 6, none, [.t 1], .v (.mv)⟩,
      ⟨some 7, none, [.t 5, .t 6], .callI 421 []⟩,
      ⟨some 8, none, [.t 7, .c (.pv (.int .i64 0))], .v (.bin .geq)⟩,
      ⟨some 4, none, [.t 8], .v (.mv)⟩] [4])
    .ret)), none, false⟩

/- typedholes/tree.Valid$1 -/
def g499 : AFunc := ⟨1, 6, [.t 2],
  (.seq
   (.reg [⟨some 2, none, [.c (.pv (.bool false))], .v (.mv)⟩] [0])
   (.seq
    (.reg [⟨some 3, none, [.t 0], .v (.mv)⟩,
      ⟨some 4, none, [.t 3], .callP 496⟩,
      ⟨some 5, none, [.t 4], .v (.un .not)⟩,
      ⟨some 2, none, [.t 5], .v (.mv)⟩] [2])
    .ret)), none, false⟩

/- slices.ContainsFunc[[]typedholes/api.Expr,typedholes/api.Expr] -/
def g500 : AFunc := ⟨2, 9, [.t 4],
  (.seq
   (.reg [⟨some 4, none, [.c (.pv (.bool false))], .v (.mv)⟩] [0, 1])
   (.seq
    (.reg [⟨some 5, none, [.t 0], .v (.mv)⟩,
      ⟨some 6, none, [.t 1], .v (.mv)⟩,
      ⟨some 7, none, [.t 5, .t 6], .callI 516 []⟩,
      ⟨some 8, none, [.t 7, .c (.pv (.int .i64 0))], .v (.bin .geq)⟩,
      ⟨some 4, none, [.t 8], .v (.mv)⟩] [4])
    .ret)), none, false⟩

/- typedholes/tree.Valid$2 -/
def g501 : AFunc := ⟨1, 6, [.t 2],
  (.seq
   (.reg [⟨some 1, none, [.t 0], .box 1 11⟩,
     ⟨some 2, none, [.c (.pv (.bool false))], .v (.mv)⟩] [1])
   (.seq
    (.reg [⟨some 3, none, [.t 1], .loadL 1 0 11 true⟩,
      ⟨some 4, none, [.t 3], .callP 483⟩,
      ⟨some 5, none, [.t 4], .v (.un .not)⟩,
      ⟨some 2, none, [.t 5], .v (.mv)⟩] [2])
    .ret)), none, false⟩

/- typedholes/derive.plain -/
def g502 : AFunc := ⟨1, 9, [.t 2],
  (.seq
   (.reg [⟨some 1, none, [.t 0], .box 1 5⟩,
     ⟨some 2, none, [.c (.pv (.bool false))], .v (.mv)⟩] [1])
   (.seq
    (.reg [⟨some 3, none, [.t 1], .loadL 1 0 5 true⟩,
      ⟨some 4, none, [.t 3], .callP 29⟩,
      ⟨some 5, none, [.t 4], .v (.mv)⟩,
      ⟨some 6, some (5, true), [.t 1], .loadL 1 0 5 true⟩,
      ⟨some 7, some (5, true), [.t 6], .callP 517⟩,
      ⟨some 8, none, [.t 5, .t 7, .c (.pv (.bool false))], .v (.pick)⟩,
      ⟨some 2, none, [.t 8], .v (.mv)⟩] [2])
    .ret)), none, false⟩

/- typedholes/derive.formed$1 -/
def g503 : AFunc := ⟨1, 6, [.t 2],
  (.seq
   (.reg [⟨some 1, none, [.t 0], .box 1 5⟩,
     ⟨some 2, none, [.c (.pv (.bool false))], .v (.mv)⟩] [1])
   (.seq
    (.reg [⟨some 3, none, [.t 1], .loadL 1 0 5 true⟩,
      ⟨some 4, none, [.t 3], .callP 502⟩,
      ⟨some 5, none, [.t 4], .v (.un .not)⟩,
      ⟨some 2, none, [.t 5], .v (.mv)⟩] [2])
    .ret)), none, false⟩

/- typedholes/derive.instance -/
def g504 : AFunc := ⟨2, 21, [.t 4],
  (.seq
   (.reg [⟨some 2, none, [.t 0], .box 2 6⟩,
     ⟨some 3, none, [.t 1], .box 3 8⟩,
     ⟨some 4, none, [.c (.pv (.bool false))], .v (.mv)⟩] [2, 3])
   (.seq
    (.reg [⟨some 8, none, [.t 2], .loadL 2 0 6 true⟩,
      ⟨some 9, none, [.t 3], .v (.faddr 5)⟩,
      ⟨some 10, none, [.t 9], .loadL 3 5 1 false⟩,
      ⟨some 11, none, [.t 8, .t 10], .callP 518⟩,
      ⟨some 7, none, [.t 11], .v (.mv)⟩,
      ⟨some 12, none, [.t 7], .v (.ext 0)⟩,
      ⟨some 13, none, [.t 7], .v (.ext 1)⟩,
      ⟨some 5, none, [], .alloc 5 [.int .i64 0, .str [], .int .i64 0, .int .i64 0, .lst []]⟩,
      ⟨none, none, [.t 5, .t 12], .storeL 5 0 5⟩,
      ⟨some 6, none, [.t 13], .v (.mv)⟩] [3, 5, 6])
    (.seq
     (.reg [⟨some 14, none, [.t 6], .v (.mv)⟩,
       ⟨some 15, none, [.t 14], .v (.mv)⟩,
       ⟨some 16, some (15, true), [.t 5], .loadL 5 0 5 true⟩,
       ⟨some 17, some (15, true), [.t 3], .v (.faddr 0)⟩,
       ⟨some 18, some (15, true), [.t 17], .loadL 3 0 5 true⟩,
       ⟨some 19, some (15, true), [.t 16, .t 18], .callP 33⟩,
       ⟨some 20, none, [.t 15, .t 19, .c (.pv (.bool false))], .v (.pick)⟩,
       ⟨some 4, none, [.t 20], .v (.mv)⟩] [4])
     .ret))), none, false⟩

/- typedholes/types.Int -/
def g505 : AFunc := ⟨0, 2, [.c 0 5 true],
  (.seq
   (.reg [⟨some 0, none, [], .alloc 0 [.int .i64 0, .str [], .int .i64 0, .int .i64 0, .lst []]⟩] [0])
   (.seq
    (.reg [⟨some 1, none, [.c (.pv (.str [73, 110, 116])), .c (.clp [])], .callP 218⟩,
      ⟨none, none, [.t 0, .t 1], .storeL 0 0 5⟩] [0])
    .ret)), none, false⟩

/- (typedholes/derive.checker).hole -/
def g506 : AFunc := ⟨4, 18, [.c 8 8 true],
  (.seq
   (.reg [⟨some 4, none, [.t 0], .box 4 2⟩,
     ⟨some 6, none, [.t 2], .box 6 11⟩,
     ⟨some 7, none, [.t 3], .box 7 8⟩,
     ⟨some 8, none, [], .alloc 8 [.int .i64 0, .int .i64 0, .lst [], .int .i64 0, .str [], .int .i64 0, .int .i64 0, .lst []]⟩] [1, 4, 6, 7, 8])
   (.seq
    (.reg [⟨some 9, none, [.t 4], .v (.faddr 1)⟩,
      ⟨some 10, none, [.t 9], .loadL 4 1 1 false⟩,
      ⟨some 11, none, [.t 6], .v (.faddr 1)⟩,
      ⟨some 12, none, [.t 11], .loadL 6 1 1 false⟩,
      ⟨some 13, none, [.t 1], .v (.mv)⟩,
      ⟨some 14, none, [.t 13], .callP 182⟩,
      ⟨some 15, none, [.t 7], .v (.faddr 0)⟩,
      ⟨some 16, none, [.t 15], .loadL 7 0 5 true⟩,
      ⟨some 17, none, [.t 10, .t 12, .t 14, .t 16], .v (.build [.int .i64 0, .int .i64 0, .lst [], .int .i64 0, .str [], .int .i64 0, .int .i64 0, .lst []] [(0, 1), (1, 1), (2, 1), (3, 5)])⟩,
      ⟨none, none, [.t 8, .t 17], .storeL 8 0 8⟩] [8])
    .ret)), none, false⟩

/- (typedholes/derive.checker).analysis -/
def g507B1 : ACode :=
  (.seq
   (.reg [⟨some 113, none, [.t 112, .t 111], .v (.bin .lss)⟩] [1, 4, 7, 12, 13, 14, 15, 17, 77, 78, 79, 110, 111, 112, 113])
   (.seq
    (.cond (.t 113)
     .skip
     (.exit 2))
    (.seq
     (.block 3
      (.seq
       (.reg [⟨some 114, none, [.t 112], .v (.mv)⟩,
         ⟨some 115, none, [.t 110, .t 112], .v (.iaddr 1)⟩,
         ⟨some 116, none, [.t 115], .v (.loadE 1 false)⟩,
         ⟨some 18, none, [.t 114], .v (.mv)⟩,
         ⟨some 19, none, [.t 116], .v (.mv)⟩] [1, 4, 7, 12, 13, 14, 15, 17, 18, 19, 77, 78, 79, 110, 111, 112])
       (.reg [⟨some 117, none, [.t 17], .v (.mv)⟩,
         ⟨some 118, none, [.t 19], .v (.mv)⟩,
         ⟨some 119, none, [.t 15], .v (.mv)⟩,
         ⟨some 120, none, [.t 18], .v (.mv)⟩,
         ⟨some 121, none, [.t 119, .t 120], .v (.iaddr 5)⟩,
         ⟨some 122, none, [.t 121], .v (.loadE 5 true)⟩,
         ⟨some 123, none, [.t 122], .callP 438⟩,
         ⟨some 124, none, [.t 117, .t 118, .t 123], .callP 177⟩,
         ⟨some 17, none, [.t 124], .v (.mv)⟩] [1, 4, 7, 12, 13, 14, 15, 17, 77, 78, 79, 110, 111, 112])))
     (.reg [⟨some 125, none, [.t 112, .c (.pv (.int .i64 1))], .v (.bin .add)⟩,
       ⟨some 112, none, [.t 125], .v (.mv)⟩] [1, 4, 7, 12, 13, 14, 15, 17, 77, 78, 79, 110, 111, 112]))))
def g507L1 : ACode := .loop [1, 4, 7, 12, 13, 14, 15, 17, 77, 78, 79, 110, 111, 112] g507B1
theorem g507L1_eq {AP : Nat → Option AFunc} {st : St} : cl AP g507L1 st = after (cl AP g507L1) (cl AP g507B1 (norm (restrict [1, 4, 7, 12, 13, 14, 15, 17, 77, 78, 79, 110, 111, 112] st))) := cl_loop
def g507B0 : ACode :=
  (.seq
   (.reg [⟨some 80, none, [.t 79, .t 78], .v (.bin .lss)⟩] [1, 4, 7, 11, 12, 77, 78, 79, 80])
   (.seq
    (.cond (.t 80)
     .skip
     (.exit 0))
    (.seq
     (.block 1
      (.seq
       (.reg [⟨some 81, none, [.t 79], .v (.mv)⟩,
         ⟨some 82, none, [.t 77, .t 79], .v (.iaddr 14)⟩,
         ⟨some 83, none, [.t 82], .v (.loadE 14 true)⟩,
         ⟨some 14, none, [], .alloc 14 [.int .i64 0, .str [], .lst [], .int .i64 0, .int .i64 0, .str [], .int .i64 0, .lst [], .lst [], .int .i64 0, .str [], .int .i64 0, .int .i64 0, .lst []]⟩,
         ⟨some 13, none, [.t 81], .v (.mv)⟩,
         ⟨none, none, [.t 14, .t 83], .storeL 14 0 14⟩] [1, 4, 7, 11, 12, 13, 14, 77, 78, 79])
       (.seq
        (.reg [⟨some 85, none, [.t 4], .v (.faddr 0)⟩,
          ⟨some 86, none, [.t 85], .loadL 4 0 1 false⟩,
          ⟨some 87, none, [.t 14], .v (.faddr 1)⟩,
          ⟨some 88, none, [.t 87], .loadL 14 1 1 false⟩,
          ⟨some 89, none, [.t 7], .v (.faddr 5)⟩,
          ⟨some 90, none, [.t 89], .loadL 7 5 1 false⟩,
          ⟨some 91, none, [.t 86, .t 88, .t 90], .callP 206⟩,
          ⟨some 84, none, [.t 91], .v (.mv)⟩,
          ⟨some 92, none, [.t 84], .v (.ext 0)⟩,
          ⟨some 93, none, [.t 84], .v (.ext 1)⟩,
          ⟨some 15, none, [.t 92], .v (.mv)⟩,
          ⟨some 16, none, [.t 93], .v (.mv)⟩] [1, 4, 7, 11, 12, 13, 14, 15, 16, 77, 78, 79])
        (.seq
         (.seq
          (.reg [⟨some 94, none, [.t 11], .v (.mv)⟩,
            ⟨some 95, none, [.t 94], .v (.un .not)⟩,
            ⟨some 96, none, [.t 95], .v (.mv)⟩,
            ⟨some 97, some (96, false), [.t 16], .v (.mv)⟩,
            ⟨some 98, some (96, false), [.t 97], .v (.un .not)⟩,
            ⟨some 99, none, [.t 96, .c (.pv (.bool true)), .t 98], .v (.pick)⟩,
            ⟨some 100, none, [.t 99], .v (.mv)⟩,
            ⟨some 101, some (100, false), [.t 15], .v (.mv)⟩,
            ⟨some 102, some (100, false), [.t 101], .v (.len)⟩,
            ⟨some 103, some (100, false), [.t 14], .v (.faddr 2)⟩,
            ⟨some 104, some (100, false), [.t 103], .loadL 14 2 1 false⟩,
            ⟨some 105, some (100, false), [.t 104], .v (.len)⟩,
            ⟨some 106, some (100, false), [.t 102, .t 105], .v (.bin .neq)⟩,
            ⟨some 107, none, [.t 100, .c (.pv (.bool true)), .t 106], .v (.pick)⟩] [1, 4, 7, 12, 13, 14, 15, 77, 78, 79, 107])
          (.cond (.t 107)
           (.seq
            (.reg [⟨some 8, none, [.c (.clp [])], .v (.mv)⟩,
              ⟨some 9, none, [.c (.pv (.bool false))], .v (.mv)⟩] [8, 9])
            .ret)
           .skip))
         (.seq
          (.reg [⟨some 108, none, [.t 1], .v (.mv)⟩,
            ⟨some 17, none, [.t 108], .v (.mv)⟩] [1, 4, 7, 12, 13, 14, 15, 17, 77, 78, 79])
          (.seq
           (.seq
            (.reg [⟨some 109, none, [.t 14], .v (.faddr 2)⟩,
              ⟨some 110, none, [.t 109], .loadL 14 2 1 false⟩,
              ⟨some 111, none, [.t 110], .v (.len)⟩,
              ⟨some 112, none, [.c (.pv (.int .i64 0))], .v (.mv)⟩] [1, 4, 7, 12, 13, 14, 15, 17, 77, 78, 79, 110, 111, 112])
            (.block 2
             g507L1))
           (.seq
            (.reg [⟨some 20, none, [.c (.clp [])], .v (.mv)⟩] [1, 4, 7, 12, 13, 14, 17, 77, 78, 79])
            (.seq
             (.reg [⟨some 127, none, [.t 4], .loadL 4 0 2 true⟩,
               ⟨some 128, none, [.t 17], .v (.mv)⟩,
               ⟨some 129, none, [.t 14], .v (.faddr 3)⟩,
               ⟨some 130, none, [.t 129], .loadL 14 3 11 true⟩,
               ⟨some 131, none, [.t 7], .v (.faddr 7)⟩,
               ⟨some 132, none, [.t 131], .loadL 7 7 1 false⟩,
               ⟨some 133, none, [.t 13], .v (.mv)⟩,
               ⟨some 134, none, [.t 133, .c (.pv (.int .i64 1))], .v (.bin .add)⟩,
               ⟨some 135, none, [.t 132, .t 134], .v (.iaddr 8)⟩,
               ⟨some 136, none, [.t 135], .v (.loadE 8 true)⟩,
               ⟨some 137, none, [.t 127, .t 128, .t 130, .t 136], .callI 487 []⟩,
               ⟨some 126, none, [.t 137], .v (.mv)⟩,
               ⟨some 138, none, [.t 126], .v (.ext 0)⟩,
               ⟨some 139, none, [.t 126], .v (.ext 1)⟩,
               ⟨some 20, none, [.t 138], .v (.mv)⟩,
               ⟨some 11, none, [.t 139], .v (.mv)⟩] [1, 4, 7, 11, 12, 13, 20, 77, 78, 79])
             (.seq
              (.reg [⟨some 140, none, [.t 11], .v (.mv)⟩,
                ⟨some 141, none, [.t 140], .v (.mv)⟩,
                ⟨some 142, some (141, true), [.t 7], .v (.faddr 7)⟩,
                ⟨some 143, some (141, true), [.t 142], .loadL 7 7 1 false⟩,
                ⟨some 144, some (141, true), [.t 13], .v (.mv)⟩,
                ⟨some 145, some (141, true), [.t 144, .c (.pv (.int .i64 1))], .v (.bin .add)⟩,
                ⟨some 146, some (141, true), [.t 143, .t 145], .v (.iaddr 8)⟩,
                ⟨some 147, some (141, true), [.t 146], .v (.faddr 0)⟩,
                ⟨some 148, some (141, true), [.t 147], .v (.loadE 5 true)⟩,
                ⟨some 149, some (141, true), [.t 7], .v (.faddr 0)⟩,
                ⟨some 150, some (141, true), [.t 149], .loadL 7 0 5 true⟩,
                ⟨some 151, some (141, true), [.t 148, .t 150], .callP 33⟩,
                ⟨some 152, none, [.t 141, .t 151, .c (.pv (.bool false))], .v (.pick)⟩,
                ⟨some 11, none, [.t 152], .v (.mv)⟩] [1, 4, 7, 11, 12, 20, 77, 78, 79])
              (.reg [⟨some 153, none, [.t 12], .v (.mv)⟩,
                ⟨some 154, none, [.t 20], .v (.mv)⟩,
                ⟨some 155, none, [.t 153, .t 154], .append 9 112⟩,
                ⟨some 12, none, [.t 155], .v (.mv)⟩] [1, 4, 7, 11, 12, 77, 78, 79]))))))))))
     (.reg [⟨some 156, none, [.t 79, .c (.pv (.int .i64 1))], .v (.bin .add)⟩,
       ⟨some 79, none, [.t 156], .v (.mv)⟩] [1, 4, 7, 11, 12, 77, 78, 79]))))
def g507L0 : ACode := .loop [1, 4, 7, 11, 12, 77, 78, 79] g507B0
theorem g507L0_eq {AP : Nat → Option AFunc} {st : St} : cl AP g507L0 st = after (cl AP g507L0) (cl AP g507B0 (norm (restrict [1, 4, 7, 11, 12, 77, 78, 79] st))) := cl_loop
def g507 : AFunc := ⟨4, 159, [.t 8, .t 9],
  (.seq
   (.reg [⟨some 4, none, [.t 0], .box 4 2⟩,
     ⟨some 6, none, [.t 2], .box 6 11⟩,
     ⟨some 7, none, [.t 3], .box 7 8⟩,
     ⟨some 8, none, [.c (.clp [])], .v (.mv)⟩,
     ⟨some 9, none, [.c (.pv (.bool false))], .v (.mv)⟩] [1, 4, 6, 7])
   (.seq
    (.reg [⟨some 22, none, [.t 4], .v (.faddr 0)⟩,
      ⟨some 23, none, [.t 22], .loadL 4 0 1 false⟩,
      ⟨some 24, none, [.t 6], .v (.faddr 5)⟩,
      ⟨some 25, none, [.t 24], .loadL 6 5 1 false⟩,
      ⟨some 26, none, [.t 23, .t 25], .callP 407⟩,
      ⟨some 21, none, [.t 26], .v (.mv)⟩,
      ⟨some 27, none, [.t 21], .v (.ext 0)⟩,
      ⟨some 28, none, [.t 21], .v (.ext 1)⟩,
      ⟨some 10, none, [.t 27], .v (.mv)⟩,
      ⟨some 11, none, [.t 28], .v (.mv)⟩] [1, 4, 6, 7, 10, 11])
    (.seq
     (.seq
      (.reg [⟨some 29, none, [.t 11], .v (.mv)⟩,
        ⟨some 30, none, [.t 29], .v (.un .not)⟩,
        ⟨some 31, none, [.t 30], .v (.mv)⟩,
        ⟨some 32, some (31, false), [.t 7], .v (.faddr 5)⟩,
        ⟨some 33, some (31, false), [.t 32], .loadL 7 5 1 false⟩,
        ⟨some 34, some (31, false), [.t 33], .v (.len)⟩,
        ⟨some 35, some (31, false), [.t 4], .v (.faddr 0)⟩,
        ⟨some 36, some (31, false), [.t 35], .loadL 4 0 1 false⟩,
        ⟨some 37, some (31, false), [.t 10], .v (.mv)⟩,
        ⟨some 38, some (31, false), [.t 36, .t 37], .v (.iaddr 4)⟩,
        ⟨some 39, some (31, false), [.t 38], .v (.faddr 2)⟩,
        ⟨some 40, some (31, false), [.t 39], .v (.loadE 1 false)⟩,
        ⟨some 41, some (31, false), [.t 40], .v (.len)⟩,
        ⟨some 42, some (31, false), [.t 34, .t 41], .v (.bin .neq)⟩,
        ⟨some 43, none, [.t 31, .c (.pv (.bool true)), .t 42], .v (.pick)⟩,
        ⟨some 44, none, [.t 43], .v (.mv)⟩,
        ⟨some 45, some (44, false), [.t 7], .v (.faddr 7)⟩,
        ⟨some 46, some (44, false), [.t 45], .loadL 7 7 1 false⟩,
        ⟨some 47, some (44, false), [.t 46, .c (.pv (.int .i64 0))], .v (.iaddr 8)⟩,
        ⟨some 48, some (44, false), [.t 47], .v (.faddr 0)⟩,
        ⟨some 49, some (44, false), [.t 48], .v (.loadE 5 true)⟩,
        ⟨some 50, some (44, false), [.t 4], .v (.faddr 0)⟩,
        ⟨some 51, some (44, false), [.t 50], .loadL 4 0 1 false⟩,
        ⟨some 52, some (44, false), [.t 10], .v (.mv)⟩,
        ⟨some 53, some (44, false), [.t 51, .t 52], .v (.iaddr 4)⟩,
        ⟨some 54, some (44, false), [.t 53], .v (.faddr 1)⟩,
        ⟨some 55, some (44, false), [.t 54], .v (.loadE 1 false)⟩,
        ⟨some 56, some (44, false), [.t 7], .v (.faddr 5)⟩,
        ⟨some 57, some (44, false), [.t 56], .loadL 7 5 1 false⟩,
        ⟨some 58, some (44, false), [.t 55, .t 57], .callP 218⟩,
        ⟨some 59, some (44, false), [.t 49, .t 58], .callP 33⟩,
        ⟨some 60, some (44, false), [.t 59], .v (.un .not)⟩,
        ⟨some 61, none, [.t 44, .c (.pv (.bool true)), .t 60], .v (.pick)⟩] [1, 4, 6, 7, 61])
      (.cond (.t 61)
       (.seq
        (.reg [⟨some 8, none, [.c (.clp [])], .v (.mv)⟩,
          ⟨some 9, none, [.c (.pv (.bool false))], .v (.mv)⟩] [8, 9])
        .ret)
       .skip))
     (.seq
      (.reg [⟨some 63, none, [.t 4], .loadL 4 0 2 true⟩,
        ⟨some 64, none, [.t 1], .v (.mv)⟩,
        ⟨some 65, none, [.t 6], .v (.faddr 4)⟩,
        ⟨some 66, none, [.t 65], .loadL 6 4 1 false⟩,
        ⟨some 67, none, [.t 66, .c (.pv (.int .i64 0))], .v (.iaddr 11)⟩,
        ⟨some 68, none, [.t 67], .v (.loadE 11 true)⟩,
        ⟨some 69, none, [.t 7], .v (.faddr 7)⟩,
        ⟨some 70, none, [.t 69], .loadL 7 7 1 false⟩,
        ⟨some 71, none, [.t 70, .c (.pv (.int .i64 0))], .v (.iaddr 8)⟩,
        ⟨some 72, none, [.t 71], .v (.loadE 8 true)⟩,
        ⟨some 73, none, [.t 63, .t 64, .t 68, .t 72], .callI 487 []⟩,
        ⟨some 62, none, [.t 73], .v (.mv)⟩,
        ⟨some 74, none, [.t 62], .v (.ext 0)⟩,
        ⟨some 75, none, [.t 62], .v (.ext 1)⟩,
        ⟨some 12, none, [.t 74], .v (.mv)⟩,
        ⟨some 11, none, [.t 75], .v (.mv)⟩] [1, 4, 6, 7, 11, 12])
      (.seq
       (.seq
        (.reg [⟨some 76, none, [.t 6], .v (.faddr 5)⟩,
          ⟨some 77, none, [.t 76], .loadL 6 5 1 false⟩,
          ⟨some 78, none, [.t 77], .v (.len)⟩,
          ⟨some 79, none, [.c (.pv (.int .i64 0))], .v (.mv)⟩] [1, 4, 7, 11, 12, 77, 78, 79])
        (.block 0
         g507L0))
       (.seq
        (.reg [⟨some 157, none, [.t 12], .v (.mv)⟩,
          ⟨some 158, none, [.t 11], .v (.mv)⟩,
          ⟨some 8, none, [.t 157], .v (.mv)⟩,
          ⟨some 9, none, [.t 158], .v (.mv)⟩] [8, 9])
        .ret)))))), none, false⟩

/- (typedholes/derive.checker).let -/
def g508 : AFunc := ⟨5, 81, [.t 10, .t 11],
  (.seq
   (.reg [⟨some 5, none, [.t 0], .box 5 2⟩,
     ⟨some 8, none, [.t 3], .box 8 11⟩,
     ⟨some 9, none, [.t 4], .box 9 8⟩,
     ⟨some 10, none, [.c (.clp [])], .v (.mv)⟩,
     ⟨some 11, none, [.c (.pv (.bool false))], .v (.mv)⟩] [1, 2, 5, 8, 9])
   (.seq
    (.reg [⟨some 17, none, [.t 5], .loadL 5 0 2 true⟩,
      ⟨some 18, none, [.t 2], .v (.mv)⟩,
      ⟨some 19, none, [.t 8], .v (.faddr 4)⟩,
      ⟨some 20, none, [.t 19], .loadL 8 4 1 false⟩,
      ⟨some 21, none, [.t 20, .c (.pv (.int .i64 0))], .v (.iaddr 11)⟩,
      ⟨some 22, none, [.t 21], .v (.loadE 11 true)⟩,
      ⟨some 23, none, [.t 9], .v (.faddr 7)⟩,
      ⟨some 24, none, [.t 23], .loadL 9 7 1 false⟩,
      ⟨some 25, none, [.t 24, .c (.pv (.int .i64 0))], .v (.iaddr 8)⟩,
      ⟨some 26, none, [.t 25], .v (.loadE 8 true)⟩,
      ⟨some 27, none, [.t 17, .t 18, .t 22, .t 26], .callI 487 []⟩,
      ⟨some 16, none, [.t 27], .v (.mv)⟩,
      ⟨some 28, none, [.t 16], .v (.ext 0)⟩,
      ⟨some 29, none, [.t 16], .v (.ext 1)⟩,
      ⟨some 12, none, [.t 28], .v (.mv)⟩,
      ⟨some 13, none, [.t 29], .v (.mv)⟩] [1, 5, 8, 9, 12, 13])
    (.seq
     (.reg [⟨some 30, none, [.t 9], .v (.faddr 7)⟩,
       ⟨some 31, none, [.t 30], .loadL 9 7 1 false⟩,
       ⟨some 32, none, [.t 31, .c (.pv (.int .i64 0))], .v (.iaddr 8)⟩,
       ⟨some 33, none, [.t 32], .v (.faddr 0)⟩,
       ⟨some 34, none, [.t 33], .v (.loadE 5 true)⟩,
       ⟨some 14, none, [], .alloc 14 [.int .i64 0, .str [], .int .i64 0, .int .i64 0, .lst []]⟩,
       ⟨none, none, [.t 14, .t 34], .storeL 14 0 5⟩] [1, 5, 8, 9, 12, 13, 14])
     (.seq
      (.seq
       (.reg [⟨some 35, none, [.t 13], .v (.mv)⟩,
         ⟨some 36, none, [.t 35], .v (.un .not)⟩,
         ⟨some 37, none, [.t 36], .v (.mv)⟩,
         ⟨some 38, some (37, false), [.t 9], .v (.faddr 6)⟩,
         ⟨some 39, some (37, false), [.t 38], .loadL 9 6 1 false⟩,
         ⟨some 40, some (37, false), [.t 14], .loadL 14 0 5 true⟩,
         ⟨some 41, some (37, false), [.t 1], .v (.mv)⟩,
         ⟨some 42, some (37, false), [.t 12], .v (.mv)⟩,
         ⟨some 43, some (37, false), [.t 39, .t 40, .t 41, .t 42], .callPS 493⟩,
         ⟨some 44, some (37, false), [.t 43], .v (.un .not)⟩,
         ⟨some 45, none, [.t 37, .c (.pv (.bool true)), .t 44], .v (.pick)⟩] [1, 5, 8, 9, 12, 14, 45])
       (.cond (.t 45)
        (.seq
         (.reg [⟨some 10, none, [.c (.clp [])], .v (.mv)⟩,
           ⟨some 11, none, [.c (.pv (.bool false))], .v (.mv)⟩] [10, 11])
         .ret)
        .skip))
      (.seq
       (.reg [⟨some 47, none, [.t 5], .loadL 5 0 2 true⟩,
         ⟨some 48, none, [.t 1], .v (.mv)⟩,
         ⟨some 49, none, [.t 8], .v (.faddr 2)⟩,
         ⟨some 50, none, [.t 49], .loadL 8 2 1 false⟩,
         ⟨some 51, none, [.t 14], .loadL 14 0 5 true⟩,
         ⟨some 52, none, [.t 9], .v (.faddr 6)⟩,
         ⟨some 53, none, [.t 52], .loadL 9 6 1 false⟩,
         ⟨some 54, none, [.t 51, .t 53], .callP 437⟩,
         ⟨some 55, none, [.t 48, .t 50, .t 54], .callP 177⟩,
         ⟨some 56, none, [.t 8], .v (.faddr 4)⟩,
         ⟨some 57, none, [.t 56], .loadL 8 4 1 false⟩,
         ⟨some 58, none, [.t 57, .c (.pv (.int .i64 1))], .v (.iaddr 11)⟩,
         ⟨some 59, none, [.t 58], .v (.loadE 11 true)⟩,
         ⟨some 60, none, [.t 9], .v (.faddr 7)⟩,
         ⟨some 61, none, [.t 60], .loadL 9 7 1 false⟩,
         ⟨some 62, none, [.t 61, .c (.pv (.int .i64 1))], .v (.iaddr 8)⟩,
         ⟨some 63, none, [.t 62], .v (.loadE 8 true)⟩,
         ⟨some 64, none, [.t 47, .t 55, .t 59, .t 63], .callI 487 []⟩,
         ⟨some 46, none, [.t 64], .v (.mv)⟩,
         ⟨some 65, none, [.t 46], .v (.ext 0)⟩,
         ⟨some 66, none, [.t 46], .v (.ext 1)⟩,
         ⟨some 15, none, [.t 65], .v (.mv)⟩,
         ⟨some 13, none, [.t 66], .v (.mv)⟩] [9, 12, 13, 15])
       (.seq
        (.reg [⟨some 67, none, [.t 12], .v (.mv)⟩,
          ⟨some 68, none, [.t 15], .v (.mv)⟩,
          ⟨some 69, none, [.t 67, .t 68], .append 9 112⟩,
          ⟨some 70, none, [.t 13], .v (.mv)⟩,
          ⟨some 71, none, [.t 70], .v (.mv)⟩,
          ⟨some 72, some (71, true), [.t 9], .v (.faddr 0)⟩,
          ⟨some 73, some (71, true), [.t 72], .loadL 9 0 5 true⟩,
          ⟨some 74, some (71, true), [.t 9], .v (.faddr 7)⟩,
          ⟨some 75, some (71, true), [.t 74], .loadL 9 7 1 false⟩,
          ⟨some 76, some (71, true), [.t 75, .c (.pv (.int .i64 1))], .v (.iaddr 8)⟩,
          ⟨some 77, some (71, true), [.t 76], .v (.faddr 0)⟩,
          ⟨some 78, some (71, true), [.t 77], .v (.loadE 5 true)⟩,
          ⟨some 79, some (71, true), [.t 73, .t 78], .callP 33⟩,
          ⟨some 80, none, [.t 71, .t 79, .c (.pv (.bool false))], .v (.pick)⟩,
          ⟨some 10, none, [.t 69], .v (.mv)⟩,
          ⟨some 11, none, [.t 80], .v (.mv)⟩] [10, 11])
        .ret)))))), none, false⟩

/- typedholes/types.IsArrow -/
def g509 : AFunc := ⟨1, 29, [.c 2 5 true, .c 3 5 true, .t 4],
  (.seq
   (.reg [⟨some 1, none, [.t 0], .box 1 5⟩,
     ⟨some 2, none, [], .alloc 2 [.int .i64 0, .str [], .int .i64 0, .int .i64 0, .lst []]⟩,
     ⟨some 3, none, [], .alloc 3 [.int .i64 0, .str [], .int .i64 0, .int .i64 0, .lst []]⟩,
     ⟨some 4, none, [.c (.pv (.bool false))], .v (.mv)⟩] [1, 2, 3])
   (.seq
    (.seq
     (.reg [⟨some 5, none, [.t 1], .v (.faddr 0)⟩,
       ⟨some 6, none, [.t 5], .loadL 1 0 1 false⟩,
       ⟨some 7, none, [.t 6, .c (.pv (.int .i64 4))], .v (.bin .neq)⟩,
       ⟨some 8, none, [.t 7], .v (.mv)⟩,
       ⟨some 9, some (8, false), [.t 1], .v (.faddr 1)⟩,
       ⟨some 10, some (8, false), [.t 9], .loadL 1 1 1 false⟩,
       ⟨some 11, some (8, false), [.t 10, .c (.pv (.str [45, 62]))], .v (.bin .neq)⟩,
       ⟨some 12, none, [.t 8, .c (.pv (.bool true)), .t 11], .v (.pick)⟩,
       ⟨some 13, none, [.t 12], .v (.mv)⟩,
       ⟨some 14, some (13, false), [.t 1], .v (.faddr 4)⟩,
       ⟨some 15, some (13, false), [.t 14], .loadL 1 4 1 false⟩,
       ⟨some 16, some (13, false), [.t 15], .v (.len)⟩,
       ⟨some 17, some (13, false), [.t 16, .c (.pv (.int .i64 2))], .v (.bin .neq)⟩,
       ⟨some 18, none, [.t 13, .c (.pv (.bool true)), .t 17], .v (.pick)⟩] [1, 2, 3, 18])
     (.cond (.t 18)
      (.seq
       (.reg [⟨some 19, none, [], .v (.build [.int .i64 0, .str [], .int .i64 0, .int .i64 0, .lst []] [])⟩,
         ⟨some 20, none, [], .v (.build [.int .i64 0, .str [], .int .i64 0, .int .i64 0, .lst []] [])⟩,
         ⟨none, none, [.t 2, .t 19], .storeL 2 0 5⟩,
         ⟨none, none, [.t 3, .t 20], .storeL 3 0 5⟩,
         ⟨some 4, none, [.c (.pv (.bool false))], .v (.mv)⟩] [2, 3, 4])
       .ret)
      .skip))
    (.seq
     (.reg [⟨some 21, none, [.t 1], .v (.faddr 4)⟩,
       ⟨some 22, none, [.t 21], .loadL 1 4 1 false⟩,
       ⟨some 23, none, [.t 22, .c (.pv (.int .i64 0))], .v (.iaddr 5)⟩,
       ⟨some 24, none, [.t 23], .v (.loadE 5 true)⟩,
       ⟨some 25, none, [.t 1], .v (.faddr 4)⟩,
       ⟨some 26, none, [.t 25], .loadL 1 4 1 false⟩,
       ⟨some 27, none, [.t 26, .c (.pv (.int .i64 1))], .v (.iaddr 5)⟩,
       ⟨some 28, none, [.t 27], .v (.loadE 5 true)⟩,
       ⟨none, none, [.t 2, .t 24], .storeL 2 0 5⟩,
       ⟨none, none, [.t 3, .t 28], .storeL 3 0 5⟩,
       ⟨some 4, none, [.c (.pv (.bool true))], .v (.mv)⟩] [2, 3, 4])
     .ret))), none, false⟩

/- typedholes/derive.vars -/
def g513B0 : ACode :=
  (.seq
   (.reg [⟨some 9, none, [.t 8, .t 7], .v (.bin .lss)⟩] [3, 6, 7, 8, 9])
   (.seq
    (.cond (.t 9)
     .skip
     (.exit 0))
    (.seq
     (.block 1
      (.seq
       (.reg [⟨some 10, none, [.t 6, .t 8], .v (.iaddr 9)⟩,
         ⟨some 11, none, [.t 10], .v (.loadE 9 true)⟩,
         ⟨some 5, none, [], .alloc 5 [.int .i64 0, .int .i64 0, .lst [], .int .i64 0, .str [], .int .i64 0, .int .i64 0, .lst [], .bool false]⟩,
         ⟨none, none, [.t 5, .t 11], .storeL 5 0 9⟩] [3, 5, 6, 7, 8])
       (.reg [⟨some 12, none, [.t 3], .v (.mv)⟩,
         ⟨some 13, none, [.t 5], .v (.faddr 0)⟩,
         ⟨some 14, none, [.t 13], .v (.faddr 3)⟩,
         ⟨some 15, none, [.t 14], .loadL 5 3 5 true⟩,
         ⟨some 16, none, [.t 15], .v (.bslice 5)⟩,
         ⟨some 17, none, [.t 16], .callP 55⟩,
         ⟨some 18, none, [.t 12, .t 17], .append 1 8⟩,
         ⟨some 19, none, [.t 5], .v (.faddr 0)⟩,
         ⟨some 20, none, [.t 19], .v (.faddr 2)⟩,
         ⟨some 21, none, [.t 20], .loadL 5 2 1 false⟩,
         ⟨some 22, none, [.t 21], .callP 199⟩,
         ⟨some 23, none, [.t 18, .t 22], .append 1 8⟩,
         ⟨some 3, none, [.t 23], .v (.mv)⟩] [3, 6, 7, 8])))
     (.reg [⟨some 24, none, [.t 8, .c (.pv (.int .i64 1))], .v (.bin .add)⟩,
       ⟨some 8, none, [.t 24], .v (.mv)⟩] [3, 6, 7, 8]))))
def g513L0 : ACode := .loop [3, 6, 7, 8] g513B0
theorem g513L0_eq {AP : Nat → Option AFunc} {st : St} : cl AP g513L0 st = after (cl AP g513L0) (cl AP g513B0 (norm (restrict [3, 6, 7, 8] st))) := cl_loop
def g513 : AFunc := ⟨1, 26, [.t 2],
  (.seq
   (.reg [⟨some 2, none, [.c (.clp [])], .v (.mv)⟩] [0])
   (.seq
    (.reg [⟨some 3, none, [.c (.clp [])], .v (.mv)⟩] [0, 3])
    (.seq
     (.seq
      (.reg [⟨some 6, none, [.t 0], .v (.mv)⟩,
        ⟨some 7, none, [.t 6], .v (.len)⟩,
        ⟨some 8, none, [.c (.pv (.int .i64 0))], .v (.mv)⟩] [3, 6, 7, 8])
      (.block 0
       g513L0))
     (.seq
      (.reg [⟨some 25, none, [.t 3], .v (.mv)⟩,
        ⟨some 2, none, [.t 25], .v (.mv)⟩] [2])
      .ret)))), none, false⟩

/- typedholes/tree.written$1 -/
def g515 : AFunc := ⟨1, 6, [.t 2],
  (.seq
   (.reg [⟨some 1, none, [.t 0], .box 1 5⟩,
     ⟨some 2, none, [.c (.pv (.bool false))], .v (.mv)⟩] [1])
   (.seq
    (.reg [⟨some 3, none, [.t 1], .loadL 1 0 5 true⟩,
      ⟨some 4, none, [.t 3], .callP 497⟩,
      ⟨some 5, none, [.t 4], .v (.un .not)⟩,
      ⟨some 2, none, [.t 5], .v (.mv)⟩] [2])
    .ret)), none, false⟩

/- slices.IndexFunc[[]typedholes/api.Expr,typedholes/api.Expr] -/
def g516B0 : ACode :=
  (.seq
   (.reg [⟨some 9, none, [.t 8, .t 7], .v (.bin .lss)⟩] [0, 1, 7, 8, 9])
   (.seq
    (.cond (.t 9)
     .skip
     (.exit 0))
    (.seq
     (.block 1
      (.seq
       (.reg [⟨some 10, none, [.t 8], .v (.mv)⟩,
         ⟨some 5, none, [.t 10], .v (.mv)⟩] [0, 1, 5, 7, 8])
       (.seq
        (.reg [⟨some 11, none, [.t 1], .v (.mv)⟩,
          ⟨some 12, none, [.t 0], .v (.mv)⟩,
          ⟨some 13, none, [.t 5], .v (.mv)⟩,
          ⟨some 14, none, [.t 12, .t 13], .v (.iaddr 11)⟩,
          ⟨some 15, none, [.t 14], .loadS 11 true⟩,
          ⟨some 16, none, [.t 11, .t 15], .callV⟩] [0, 1, 5, 7, 8, 16])
        (.cond (.t 16)
         (.seq
          (.reg [⟨some 17, none, [.t 5], .v (.mv)⟩,
            ⟨some 4, none, [.t 17], .v (.mv)⟩] [4])
          .ret)
         .skip))))
     (.reg [⟨some 18, none, [.t 8, .c (.pv (.int .i64 1))], .v (.bin .add)⟩,
       ⟨some 8, none, [.t 18], .v (.mv)⟩] [0, 1, 7, 8]))))
def g516L0 : ACode := .loop [0, 1, 7, 8] g516B0
theorem g516L0_eq {AP : Nat → Option AFunc} {st : St} : cl AP g516L0 st = after (cl AP g516L0) (cl AP g516B0 (norm (restrict [0, 1, 7, 8] st))) := cl_loop
def g516 : AFunc := ⟨2, 19, [.t 4],
  (.seq
   (.reg [⟨some 4, none, [.c (.pv (.int .i64 0))], .v (.mv)⟩] [0, 1])
   (.seq
    (.seq
     (.reg [⟨some 6, none, [.t 0], .v (.mv)⟩,
       ⟨some 7, none, [.t 6], .v (.len)⟩,
       ⟨some 8, none, [.c (.pv (.int .i64 0))], .v (.mv)⟩] [0, 1, 7, 8])
     (.block 0
      g516L0))
    (.seq
     (.reg [⟨some 4, none, [.c (.pv (.int .i64 (-1)))], .v (.mv)⟩] [4])
     .ret))), none, false⟩

/- typedholes/derive.free -/
def g517 : AFunc := ⟨1, 17, [.t 2],
  (.seq
   (.reg [⟨some 1, none, [.t 0], .box 1 5⟩,
     ⟨some 2, none, [.c (.pv (.bool false))], .v (.mv)⟩] [1])
   (.seq
    (.reg [⟨some 3, none, [.t 1], .v (.faddr 0)⟩,
      ⟨some 4, none, [.t 3], .loadL 1 0 1 false⟩,
      ⟨some 5, none, [.t 4, .c (.pv (.int .i64 2))], .v (.bin .neq)⟩,
      ⟨some 6, none, [.t 5], .v (.mv)⟩,
      ⟨some 7, some (6, true), [.t 1], .v (.faddr 0)⟩,
      ⟨some 8, some (6, true), [.t 7], .loadL 1 0 1 false⟩,
      ⟨some 9, some (6, true), [.t 8, .c (.pv (.int .i64 5))], .v (.bin .neq)⟩,
      ⟨some 10, none, [.t 6, .t 9, .c (.pv (.bool false))], .v (.pick)⟩,
      ⟨some 11, none, [.t 10], .v (.mv)⟩,
      ⟨some 12, some (11, true), [.t 1], .v (.faddr 4)⟩,
      ⟨some 13, some (11, true), [.t 12], .loadL 1 4 1 false⟩,
      ⟨some 14, some (11, true), [.t 13, .c (.fn 520 [])], .callI 75 []⟩,
      ⟨some 15, some (11, true), [.t 14], .v (.un .not)⟩,
      ⟨some 16, none, [.t 11, .t 15, .c (.pv (.bool false))], .v (.pick)⟩,
      ⟨some 2, none, [.t 16], .v (.mv)⟩] [2])
    .ret)), none, false⟩

/- typedholes/scheme.Open -/
def g518 : AFunc := ⟨2, 16, [.c 4 5 true, .t 5],
  (.seq
   (.reg [⟨some 2, none, [.t 0], .box 2 6⟩,
     ⟨some 4, none, [], .alloc 4 [.int .i64 0, .str [], .int .i64 0, .int .i64 0, .lst []]⟩,
     ⟨some 5, none, [.c (.pv (.bool false))], .v (.mv)⟩] [1, 2, 4])
   (.seq
    (.seq
     (.reg [⟨some 6, none, [.t 1], .v (.mv)⟩,
       ⟨some 7, none, [.t 6], .v (.len)⟩,
       ⟨some 8, none, [.t 2], .v (.faddr 0)⟩,
       ⟨some 9, none, [.t 8], .loadL 2 0 1 false⟩,
       ⟨some 10, none, [.t 7, .t 9], .v (.bin .neq)⟩] [1, 2, 4, 10])
     (.cond (.t 10)
      (.seq
       (.reg [⟨some 11, none, [], .v (.build [.int .i64 0, .str [], .int .i64 0, .int .i64 0, .lst []] [])⟩,
         ⟨none, none, [.t 4, .t 11], .storeL 4 0 5⟩,
         ⟨some 5, none, [.c (.pv (.bool false))], .v (.mv)⟩] [4, 5])
       .ret)
      .skip))
    (.seq
     (.reg [⟨some 12, none, [.t 2], .v (.faddr 1)⟩,
       ⟨some 13, none, [.t 12], .loadL 2 1 5 true⟩,
       ⟨some 14, none, [.t 1], .v (.mv)⟩,
       ⟨some 15, none, [.t 13, .t 14], .callP 47⟩,
       ⟨none, none, [.t 4, .t 15], .storeL 4 0 5⟩,
       ⟨some 5, none, [.c (.pv (.bool true))], .v (.mv)⟩] [4, 5])
     .ret))), none, false⟩

/- typedholes/derive.free$1 -/
def g520 : AFunc := ⟨1, 6, [.t 2],
  (.seq
   (.reg [⟨some 1, none, [.t 0], .box 1 5⟩,
     ⟨some 2, none, [.c (.pv (.bool false))], .v (.mv)⟩] [1])
   (.seq
    (.reg [⟨some 3, none, [.t 1], .loadL 1 0 5 true⟩,
      ⟨some 4, none, [.t 3], .callP 517⟩,
      ⟨some 5, none, [.t 4], .v (.un .not)⟩,
      ⟨some 2, none, [.t 5], .v (.mv)⟩] [2])
    .ret)), none, false⟩

/-- All functions. -/
def AP (g : Nat) : Option AFunc := match g with
  | 8 => some g8
  | 9 => some g9
  | 15 => some g15
  | 20 => some g20
  | 26 => some g26
  | 27 => some g27
  | 29 => some g29
  | 32 => some g32
  | 33 => some g33
  | 34 => some g34
  | 35 => some g35
  | 45 => some g45
  | 47 => some g47
  | 52 => some g52
  | 55 => some g55
  | 56 => some g56
  | 57 => some g57
  | 62 => some g62
  | 63 => some g63
  | 68 => some g68
  | 69 => some g69
  | 70 => some g70
  | 71 => some g71
  | 73 => some g73
  | 74 => some g74
  | 75 => some g75
  | 76 => some g76
  | 77 => some g77
  | 78 => some g78
  | 79 => some g79
  | 80 => some g80
  | 81 => some g81
  | 82 => some g82
  | 83 => some g83
  | 91 => some g91
  | 92 => some g92
  | 93 => some g93
  | 95 => some g95
  | 96 => some g96
  | 97 => some g97
  | 98 => some g98
  | 99 => some g99
  | 106 => some g106
  | 107 => some g107
  | 108 => some g108
  | 109 => some g109
  | 110 => some g110
  | 111 => some g111
  | 112 => some g112
  | 113 => some g113
  | 114 => some g114
  | 116 => some g116
  | 117 => some g117
  | 118 => some g118
  | 119 => some g119
  | 120 => some g120
  | 121 => some g121
  | 122 => some g122
  | 123 => some g123
  | 124 => some g124
  | 125 => some g125
  | 126 => some g126
  | 127 => some g127
  | 128 => some g128
  | 129 => some g129
  | 130 => some g130
  | 131 => some g131
  | 132 => some g132
  | 133 => some g133
  | 134 => some g134
  | 135 => some g135
  | 136 => some g136
  | 137 => some g137
  | 138 => some g138
  | 139 => some g139
  | 140 => some g140
  | 141 => some g141
  | 142 => some g142
  | 143 => some g143
  | 144 => some g144
  | 145 => some g145
  | 146 => some g146
  | 177 => some g177
  | 180 => some g180
  | 182 => some g182
  | 190 => some g190
  | 192 => some g192
  | 195 => some g195
  | 197 => some g197
  | 199 => some g199
  | 206 => some g206
  | 209 => some g209
  | 210 => some g210
  | 211 => some g211
  | 212 => some g212
  | 214 => some g214
  | 218 => some g218
  | 219 => some g219
  | 220 => some g220
  | 223 => some g223
  | 224 => some g224
  | 234 => some g234
  | 400 => some g400
  | 404 => some g404
  | 407 => some g407
  | 410 => some g410
  | 411 => some g411
  | 412 => some g412
  | 413 => some g413
  | 414 => some g414
  | 416 => some g416
  | 417 => some g417
  | 418 => some g418
  | 419 => some g419
  | 421 => some g421
  | 437 => some g437
  | 438 => some g438
  | 446 => some g446
  | 448 => some g448
  | 453 => some g453
  | 456 => some g456
  | 464 => some g464
  | 473 => some g473
  | 478 => some g478
  | 479 => some g479
  | 483 => some g483
  | 484 => some g484
  | 485 => some g485
  | 486 => some g486
  | 487 => some g487
  | 493 => some g493
  | 495 => some g495
  | 496 => some g496
  | 497 => some g497
  | 498 => some g498
  | 499 => some g499
  | 500 => some g500
  | 501 => some g501
  | 502 => some g502
  | 503 => some g503
  | 504 => some g504
  | 505 => some g505
  | 506 => some g506
  | 507 => some g507
  | 508 => some g508
  | 509 => some g509
  | 513 => some g513
  | 515 => some g515
  | 516 => some g516
  | 517 => some g517
  | 518 => some g518
  | 520 => some g520
  | _ => none

end Go.Ab
