import Derived.Test.YtfhhognolpjikaaAbEv
/-
  The program's functions in slim code, as a program of ours printed them; what they have to do with the given program is proved in the text Impl.
-/
namespace Go.Ab

/- typedholes/typedholeslaw3.TypesReplaced -/
def g11B0 : ACode :=
  (.seq
   (.seq
    (.reg [⟨some 29, none, [.t 11], .v (.mv)⟩,
      ⟨some 30, none, [.t 2], .v (.mv)⟩,
      ⟨some 31, none, [.t 30], .v (.len)⟩,
      ⟨some 32, none, [.t 29, .t 31], .v (.bin .lss)⟩] [0, 2, 7, 8, 9, 10, 11, 32])
    (.cond (.t 32)
     .skip
     (.exit 0)))
   (.seq
    (.block 1
     (.seq
      (.reg [⟨some 35, none, [.t 8], .v (.mv)⟩,
        ⟨some 36, none, [.t 0], .v (.mv)⟩,
        ⟨some 37, none, [.t 36], .callP 32⟩,
        ⟨some 38, none, [], .callP 28⟩,
        ⟨some 39, none, [.t 35, .t 37, .t 38, .c (.pv (.int .i64 2))], .callI 27 []⟩,
        ⟨some 12, none, [], .alloc 12 [.int .i64 0, .str [], .int .i64 0, .int .i64 0, .lst []]⟩,
        ⟨none, none, [.t 12, .t 39], .storeL 12 0 5⟩] [0, 2, 7, 8, 9, 10, 11, 12])
      (.reg [⟨some 40, none, [.t 9], .v (.mv)⟩,
        ⟨some 41, none, [.t 2], .v (.mv)⟩,
        ⟨some 42, none, [.t 11], .v (.mv)⟩,
        ⟨some 43, none, [.t 41, .t 42], .v (.iaddr 1)⟩,
        ⟨some 44, none, [.t 43], .v (.loadE 1 false)⟩,
        ⟨some 45, none, [.t 44, .c (.pv (.int .i64 5))], .callP 26⟩,
        ⟨some 46, none, [.t 12], .loadL 12 0 5 true⟩,
        ⟨some 47, none, [.t 45, .t 46], .v (.build [.int .i64 0, .int .i64 0, .str [], .int .i64 0, .int .i64 0, .lst []] [(0, 1), (1, 5)])⟩,
        ⟨some 48, none, [.t 47], .v (.bslice 6)⟩,
        ⟨some 49, none, [.t 40, .t 48], .append 6 72⟩,
        ⟨some 50, none, [.t 10], .v (.mv)⟩,
        ⟨some 51, none, [.t 12], .loadL 12 0 5 true⟩,
        ⟨some 52, none, [.t 51], .v (.bslice 5)⟩,
        ⟨some 53, none, [.t 50, .t 52], .append 5 64⟩,
        ⟨some 9, none, [.t 49], .v (.mv)⟩,
        ⟨some 10, none, [.t 53], .v (.mv)⟩] [0, 2, 7, 8, 9, 10, 11])))
    (.reg [⟨some 33, none, [.t 11], .v (.mv)⟩,
      ⟨some 34, none, [.t 33, .c (.pv (.int .i64 1))], .v (.bin .add)⟩,
      ⟨some 11, none, [.t 34], .v (.mv)⟩] [0, 2, 7, 8, 9, 10, 11])))
def g11L0 : ACode := .loop [0, 2, 7, 8, 9, 10, 11] g11B0
theorem g11L0_eq {AP : Nat → Option AFunc} {st : St} : cl AP g11L0 st = after (cl AP g11L0) (cl AP g11B0 (norm (restrict [0, 2, 7, 8, 9, 10, 11] st))) := cl_loop
def g11 : AFunc := ⟨3, 76, [.t 6],
  (.seq
   (.reg [⟨some 6, none, [.c (.pv (.bool false))], .v (.mv)⟩] [0, 1, 2])
   (.seq
    (.seq
     (.reg [⟨some 13, none, [], .callP 23⟩,
       ⟨some 14, none, [.t 13], .v (.un .not)⟩] [0, 1, 2, 14])
     (.cond (.t 14)
      (.seq
       (.reg [⟨some 6, none, [.c (.pv (.bool false))], .v (.mv)⟩] [6])
       .ret)
      .skip))
    (.seq
     (.seq
      (.reg [⟨some 15, none, [.t 1], .v (.mv)⟩,
        ⟨some 16, none, [.t 15], .callP 15⟩,
        ⟨some 17, none, [.t 16], .v (.un .not)⟩,
        ⟨some 18, none, [.t 17], .v (.mv)⟩,
        ⟨some 19, some (18, false), [.t 2], .v (.mv)⟩,
        ⟨some 20, some (18, false), [.t 19], .v (.len)⟩,
        ⟨some 21, some (18, false), [.t 20, .c (.pv (.int .i64 6))], .v (.bin .gtr)⟩,
        ⟨some 22, none, [.t 18, .c (.pv (.bool true)), .t 21], .v (.pick)⟩] [0, 1, 2, 22])
      (.cond (.t 22)
       (.seq
        (.reg [⟨some 6, none, [.c (.pv (.bool true))], .v (.mv)⟩] [6])
        .ret)
       .skip))
     (.seq
      (.reg [⟨some 24, none, [.t 0], .v (.mv)⟩,
        ⟨some 25, none, [.t 1], .v (.mv)⟩,
        ⟨some 26, none, [.t 24, .t 25], .callI 25 []⟩,
        ⟨some 23, none, [.t 26], .v (.mv)⟩,
        ⟨some 27, none, [.t 23], .v (.ext 0)⟩,
        ⟨some 28, none, [.t 23], .v (.ext 1)⟩,
        ⟨some 7, none, [], .alloc 7 [.int .i64 0, .str [], .int .i64 0, .int .i64 0, .lst []]⟩,
        ⟨none, none, [.t 7, .t 27], .storeL 7 0 5⟩,
        ⟨some 8, none, [.t 28], .v (.mv)⟩] [0, 2, 7, 8])
      (.seq
       (.reg [⟨some 9, none, [.c (.clp [])], .v (.mv)⟩] [0, 2, 7, 8, 9])
       (.seq
        (.reg [⟨some 10, none, [.c (.clp [])], .v (.mv)⟩] [0, 2, 7, 8, 9, 10])
        (.seq
         (.seq
          (.reg [⟨some 11, none, [.c (.pv (.int .i64 0))], .v (.mv)⟩] [0, 2, 7, 8, 9, 10, 11])
          (.block 0
           g11L0))
         (.seq
          (.reg [⟨some 54, none, [.t 7], .loadL 7 0 5 true⟩,
            ⟨some 55, none, [.t 9], .v (.mv)⟩,
            ⟨some 56, none, [.t 54, .t 55], .callP 45⟩,
            ⟨some 57, none, [.t 7], .loadL 7 0 5 true⟩,
            ⟨some 58, none, [.t 9], .v (.mv)⟩,
            ⟨some 59, none, [.t 57, .t 58], .callP 46⟩,
            ⟨some 60, none, [.t 56, .t 59], .callP 20⟩,
            ⟨some 61, none, [.t 60], .v (.mv)⟩,
            ⟨some 62, some (61, true), [.t 7], .loadL 7 0 5 true⟩,
            ⟨some 63, some (61, true), [.t 10], .v (.mv)⟩,
            ⟨some 64, some (61, true), [.t 62, .t 63], .callP 47⟩,
            ⟨some 65, some (61, true), [.t 7], .loadL 7 0 5 true⟩,
            ⟨some 66, some (61, true), [.t 10], .v (.mv)⟩,
            ⟨some 67, some (61, true), [.t 65, .t 66], .callP 48⟩,
            ⟨some 68, some (61, true), [.t 64, .t 67], .callP 20⟩,
            ⟨some 69, none, [.t 61, .t 68, .c (.pv (.bool false))], .v (.pick)⟩,
            ⟨some 70, none, [.t 69], .v (.mv)⟩,
            ⟨some 71, some (70, true), [.t 7], .loadL 7 0 5 true⟩,
            ⟨some 72, some (70, true), [.t 71, .c (.clp [])], .callP 45⟩,
            ⟨some 73, some (70, true), [.t 7], .loadL 7 0 5 true⟩,
            ⟨some 74, some (70, true), [.t 72, .t 73], .callP 20⟩,
            ⟨some 75, none, [.t 70, .t 74, .c (.pv (.bool false))], .v (.pick)⟩,
            ⟨some 6, none, [.t 75], .v (.mv)⟩] [6])
          .ret)))))))), none, false⟩

/- typedholes/typedholesmake.Few -/
def g15 : AFunc := ⟨1, 6, [.t 2],
  (.seq
   (.reg [⟨some 2, none, [.c (.pv (.bool false))], .v (.mv)⟩] [0])
   (.seq
    (.reg [⟨some 3, none, [.t 0], .v (.mv)⟩,
      ⟨some 4, none, [.t 3], .v (.len)⟩,
      ⟨some 5, none, [.t 4, .c (.pv (.int .i64 60))], .v (.bin .leq)⟩,
      ⟨some 2, none, [.t 5], .v (.mv)⟩] [2])
    .ret)), none, false⟩

/- typedholes/typedholesmake.Mod -/
def g26 : AFunc := ⟨2, 16, [.t 4],
  (.seq
   (.reg [⟨some 4, none, [.c (.pv (.int .i64 0))], .v (.mv)⟩] [0, 1])
   (.seq
    (.seq
     (.reg [⟨some 5, none, [.t 1], .v (.mv)⟩,
       ⟨some 6, none, [.t 5, .c (.pv (.int .i64 1))], .v (.bin .lss)⟩] [0, 1, 6])
     (.cond (.t 6)
      (.seq
       (.reg [⟨some 4, none, [.c (.pv (.int .i64 0))], .v (.mv)⟩] [4])
       .ret)
      .skip))
    (.seq
     (.reg [⟨some 7, none, [.t 0], .v (.mv)⟩,
       ⟨some 8, none, [.t 1], .v (.mv)⟩,
       ⟨some 9, none, [.t 7, .t 8], .v (.bin .rem)⟩,
       ⟨some 0, none, [.t 9], .v (.mv)⟩] [0, 1])
     (.seq
      (.seq
       (.reg [⟨some 10, none, [.t 0], .v (.mv)⟩,
         ⟨some 11, none, [.t 10, .c (.pv (.int .i64 0))], .v (.bin .lss)⟩] [0, 1, 11])
       (.cond (.t 11)
        (.reg [⟨some 12, none, [.t 0], .v (.mv)⟩,
          ⟨some 13, none, [.t 1], .v (.mv)⟩,
          ⟨some 14, none, [.t 12, .t 13], .v (.bin .add)⟩,
          ⟨some 0, none, [.t 14], .v (.mv)⟩] [0])
        .skip))
      (.seq
       (.reg [⟨some 15, none, [.t 0], .v (.mv)⟩,
         ⟨some 4, none, [.t 15], .v (.mv)⟩] [4])
       .ret))))), none, false⟩

/- (*typedholes/typedholesmake.Tape).Type -/
def g27B0 : ACode :=
  (.seq
   (.seq
    (.reg [⟨some 61, none, [.t 12], .v (.mv)⟩,
      ⟨some 62, none, [.t 10], .v (.faddr 2)⟩,
      ⟨some 63, none, [.t 62], .loadL 10 2 1 false⟩,
      ⟨some 64, none, [.t 63], .v (.len)⟩,
      ⟨some 65, none, [.t 61, .t 64], .v (.bin .lss)⟩] [0, 1, 2, 3, 8, 10, 11, 12, 65])
    (.cond (.t 65)
     .skip
     (.exit 1)))
   (.seq
    (.block 2
     (.reg [⟨some 68, none, [.t 11], .v (.mv)⟩,
       ⟨some 69, none, [.t 0], .v (.mv)⟩,
       ⟨some 70, none, [.t 1], .v (.mv)⟩,
       ⟨some 71, none, [.t 2], .v (.mv)⟩,
       ⟨some 72, none, [.t 3], .v (.mv)⟩,
       ⟨some 73, none, [.t 72, .c (.pv (.int .i64 1))], .v (.bin .sub)⟩,
       ⟨some 74, none, [.t 69, .t 70, .t 71, .t 73], .callI 27 []⟩,
       ⟨some 75, none, [.t 74], .v (.bslice 5)⟩,
       ⟨some 76, none, [.t 68, .t 75], .append 5 64⟩,
       ⟨some 11, none, [.t 76], .v (.mv)⟩] [0, 1, 2, 3, 8, 10, 11, 12]))
    (.reg [⟨some 66, none, [.t 12], .v (.mv)⟩,
      ⟨some 67, none, [.t 66, .c (.pv (.int .i64 1))], .v (.bin .add)⟩,
      ⟨some 12, none, [.t 67], .v (.mv)⟩] [0, 1, 2, 3, 8, 10, 11, 12])))
def g27L0 : ACode := .loop [0, 1, 2, 3, 8, 10, 11, 12] g27B0
theorem g27L0_eq {AP : Nat → Option AFunc} {st : St} : cl AP g27L0 st = after (cl AP g27L0) (cl AP g27B0 (norm (restrict [0, 1, 2, 3, 8, 10, 11, 12] st))) := cl_loop
def g27 : AFunc := ⟨4, 95, [.c 8 5 true],
  (.seq
   (.reg [⟨some 8, none, [], .alloc 8 [.int .i64 0, .str [], .int .i64 0, .int .i64 0, .lst []]⟩] [0, 1, 2, 3, 8])
   (.seq
    (.reg [⟨some 14, none, [.t 0], .v (.mv)⟩,
      ⟨some 15, none, [.t 14, .c (.pv (.int .i64 7))], .callI 68 []⟩,
      ⟨some 9, none, [.t 15], .v (.mv)⟩] [0, 1, 2, 3, 8, 9])
    (.seq
     (.block 0
      (.seq
       (.reg [⟨some 17, none, [.t 9], .v (.mv)⟩,
         ⟨some 18, none, [.t 17, .c (.pv (.int .i64 3))], .v (.bin .lss)⟩,
         ⟨some 19, none, [.t 18], .v (.mv)⟩,
         ⟨some 20, some (19, true), [.t 2], .v (.mv)⟩,
         ⟨some 21, some (19, true), [.t 20], .v (.len)⟩,
         ⟨some 22, some (19, true), [.t 21, .c (.pv (.int .i64 0))], .v (.bin .gtr)⟩,
         ⟨some 23, none, [.t 19, .t 22, .c (.pv (.bool false))], .v (.pick)⟩,
         ⟨some 16, none, [.t 23], .v (.mv)⟩] [0, 1, 2, 3, 8, 9, 16])
       (.cond (.t 16)
        (.seq
         (.reg [⟨some 24, none, [.t 2], .v (.mv)⟩,
           ⟨some 25, none, [.t 0], .v (.mv)⟩,
           ⟨some 26, none, [.t 2], .v (.mv)⟩,
           ⟨some 27, none, [.t 26], .v (.len)⟩,
           ⟨some 28, none, [.t 25, .t 27], .callI 68 []⟩,
           ⟨some 29, none, [.t 24, .t 28], .v (.iaddr 5)⟩,
           ⟨some 30, none, [.t 29], .loadS 5 true⟩,
           ⟨none, none, [.t 8, .t 30], .storeL 8 0 5⟩] [8])
         .ret)
        (.seq
         (.reg [⟨some 32, none, [.t 9], .v (.mv)⟩,
           ⟨some 33, none, [.t 32, .c (.pv (.int .i64 4))], .v (.bin .lss)⟩,
           ⟨some 34, none, [.t 33], .v (.mv)⟩,
           ⟨some 35, some (34, false), [.t 3], .v (.mv)⟩,
           ⟨some 36, some (34, false), [.t 35, .c (.pv (.int .i64 1))], .v (.bin .lss)⟩,
           ⟨some 37, none, [.t 34, .c (.pv (.bool true)), .t 36], .v (.pick)⟩,
           ⟨some 31, none, [.t 37], .v (.mv)⟩] [0, 1, 2, 3, 8, 9, 31])
         (.cond (.t 31)
          (.seq
           (.reg [⟨some 38, none, [], .callP 34⟩,
             ⟨none, none, [.t 8, .t 38], .storeL 8 0 5⟩] [8])
           .ret)
          (.seq
           (.seq
            (.reg [⟨some 40, none, [.t 9], .v (.mv)⟩,
              ⟨some 41, none, [.t 40, .c (.pv (.int .i64 4))], .v (.bin .eql)⟩,
              ⟨some 42, none, [.t 41], .v (.mv)⟩,
              ⟨some 43, some (42, true), [.t 1], .v (.mv)⟩,
              ⟨some 44, some (42, true), [.t 43], .v (.len)⟩,
              ⟨some 45, some (42, true), [.t 44, .c (.pv (.int .i64 0))], .v (.bin .gtr)⟩,
              ⟨some 46, none, [.t 42, .t 45, .c (.pv (.bool false))], .v (.pick)⟩,
              ⟨some 39, none, [.t 46], .v (.mv)⟩] [0, 1, 2, 3, 8, 9, 39])
            (.cond (.t 39)
             .skip
             (.reg [⟨some 47, none, [.t 9], .v (.mv)⟩,
               ⟨some 48, none, [.t 47, .c (.pv (.int .i64 5))], .v (.bin .eql)⟩,
               ⟨some 49, none, [.t 48], .v (.mv)⟩,
               ⟨some 50, some (49, true), [.t 1], .v (.mv)⟩,
               ⟨some 51, some (49, true), [.t 50], .v (.len)⟩,
               ⟨some 52, some (49, true), [.t 51, .c (.pv (.int .i64 0))], .v (.bin .gtr)⟩,
               ⟨some 53, none, [.t 49, .t 52, .c (.pv (.bool false))], .v (.pick)⟩,
               ⟨some 39, none, [.t 53], .v (.mv)⟩] [0, 1, 2, 3, 8, 39])))
           (.cond (.t 39)
            (.seq
             (.reg [⟨some 54, none, [.t 1], .v (.mv)⟩,
               ⟨some 55, none, [.t 0], .v (.mv)⟩,
               ⟨some 56, none, [.t 1], .v (.mv)⟩,
               ⟨some 57, none, [.t 56], .v (.len)⟩,
               ⟨some 58, none, [.t 55, .t 57], .callI 68 []⟩,
               ⟨some 59, none, [.t 54, .t 58], .v (.iaddr 4)⟩,
               ⟨some 60, none, [.t 59], .loadS 4 true⟩,
               ⟨some 10, none, [], .alloc 10 [.int .i64 0, .str [], .lst [], .lst []]⟩,
               ⟨none, none, [.t 10, .t 60], .storeL 10 0 4⟩] [0, 1, 2, 3, 8, 10])
             (.seq
              (.reg [⟨some 11, none, [.c (.clp [])], .v (.mv)⟩] [0, 1, 2, 3, 8, 10, 11])
              (.seq
               (.seq
                (.reg [⟨some 12, none, [.c (.pv (.int .i64 0))], .v (.mv)⟩] [0, 1, 2, 3, 8, 10, 11, 12])
                (.block 1
                 g27L0))
               (.seq
                (.reg [⟨some 77, none, [.t 10], .v (.faddr 1)⟩,
                  ⟨some 78, none, [.t 77], .loadL 10 1 1 false⟩,
                  ⟨some 79, none, [.t 11], .v (.mv)⟩,
                  ⟨some 80, none, [.t 78, .t 79], .callP 62⟩,
                  ⟨none, none, [.t 8, .t 80], .storeL 8 0 5⟩] [8])
                .ret))))
            .skip)))))))
     (.seq
      (.reg [⟨some 81, none, [.t 0], .v (.mv)⟩,
        ⟨some 82, none, [.t 1], .v (.mv)⟩,
        ⟨some 83, none, [.t 2], .v (.mv)⟩,
        ⟨some 84, none, [.t 3], .v (.mv)⟩,
        ⟨some 85, none, [.t 84, .c (.pv (.int .i64 1))], .v (.bin .sub)⟩,
        ⟨some 86, none, [.t 81, .t 82, .t 83, .t 85], .callI 27 []⟩,
        ⟨some 13, none, [], .alloc 13 [.int .i64 0, .str [], .int .i64 0, .int .i64 0, .lst []]⟩,
        ⟨none, none, [.t 13, .t 86], .storeL 13 0 5⟩] [0, 1, 2, 3, 8, 13])
      (.seq
       (.reg [⟨some 87, none, [.t 13], .loadL 13 0 5 true⟩,
         ⟨some 88, none, [.t 0], .v (.mv)⟩,
         ⟨some 89, none, [.t 1], .v (.mv)⟩,
         ⟨some 90, none, [.t 2], .v (.mv)⟩,
         ⟨some 91, none, [.t 3], .v (.mv)⟩,
         ⟨some 92, none, [.t 91, .c (.pv (.int .i64 1))], .v (.bin .sub)⟩,
         ⟨some 93, none, [.t 88, .t 89, .t 90, .t 92], .callI 27 []⟩,
         ⟨some 94, none, [.t 87, .t 93], .callP 69⟩,
         ⟨none, none, [.t 8, .t 94], .storeL 8 0 5⟩] [8])
       .ret))))), none, false⟩

/- typedholes/typedholesmake.Datas -/
def g32B0 : ACode :=
  (.seq
   (.seq
    (.reg [⟨some 21, none, [.t 5], .v (.mv)⟩,
      ⟨some 22, none, [.t 3], .v (.mv)⟩,
      ⟨some 23, none, [.t 22], .v (.len)⟩,
      ⟨some 24, none, [.t 21, .t 23], .v (.bin .lss)⟩] [0, 3, 4, 5, 24])
    (.cond (.t 24)
     .skip
     (.exit 0)))
   (.seq
    (.block 1
     (.seq
      (.reg [⟨some 27, none, [.t 5], .v (.mv)⟩,
        ⟨some 28, none, [.t 27, .c (.pv (.int .i64 1))], .v (.bin .neq)⟩,
        ⟨some 29, none, [.t 28], .v (.mv)⟩,
        ⟨some 30, some (29, true), [.t 0], .v (.mv)⟩,
        ⟨some 31, some (29, true), [.t 5], .v (.mv)⟩,
        ⟨some 32, some (29, true), [.t 31], .v (.conv .u64)⟩,
        ⟨some 33, some (29, true), [.t 30, .t 32], .v (.bin .shr)⟩,
        ⟨some 34, some (29, true), [.t 33, .c (.pv (.int .i64 1))], .v (.bin .and)⟩,
        ⟨some 35, some (29, true), [.t 34, .c (.pv (.int .i64 1))], .v (.bin .eql)⟩,
        ⟨some 36, none, [.t 29, .t 35, .c (.pv (.bool false))], .v (.pick)⟩] [0, 3, 4, 5, 36])
      (.cond (.t 36)
       (.reg [⟨some 37, none, [.t 4], .v (.mv)⟩,
         ⟨some 38, none, [.t 3], .v (.mv)⟩,
         ⟨some 39, none, [.t 5], .v (.mv)⟩,
         ⟨some 40, none, [.t 38, .t 39], .v (.iaddr 4)⟩,
         ⟨some 41, none, [.t 40], .v (.loadE 4 true)⟩,
         ⟨some 42, none, [.t 41], .v (.bslice 4)⟩,
         ⟨some 43, none, [.t 37, .t 42], .append 4 72⟩,
         ⟨some 4, none, [.t 43], .v (.mv)⟩] [0, 3, 4, 5])
       .skip)))
    (.reg [⟨some 25, none, [.t 5], .v (.mv)⟩,
      ⟨some 26, none, [.t 25, .c (.pv (.int .i64 1))], .v (.bin .add)⟩,
      ⟨some 5, none, [.t 26], .v (.mv)⟩] [0, 3, 4, 5])))
def g32L0 : ACode := .loop [0, 3, 4, 5] g32B0
theorem g32L0_eq {AP : Nat → Option AFunc} {st : St} : cl AP g32L0 st = after (cl AP g32L0) (cl AP g32B0 (norm (restrict [0, 3, 4, 5] st))) := cl_loop
def g32 : AFunc := ⟨1, 45, [.t 2],
  (.seq
   (.reg [⟨some 2, none, [.c (.clp [])], .v (.mv)⟩] [0])
   (.seq
    (.reg [⟨some 6, none, [], .callP 79⟩,
      ⟨some 3, none, [.t 6], .v (.mv)⟩] [0, 3])
    (.seq
     (.reg [⟨some 4, none, [.c (.clp [])], .v (.mv)⟩] [0, 3, 4])
     (.seq
      (.seq
       (.reg [⟨some 7, none, [.t 0], .v (.mv)⟩,
         ⟨some 8, none, [.t 7, .c (.pv (.int .i64 2))], .v (.bin .and)⟩,
         ⟨some 9, none, [.t 8, .c (.pv (.int .i64 0))], .v (.bin .neq)⟩,
         ⟨some 10, none, [.t 9], .v (.mv)⟩,
         ⟨some 11, some (10, false), [.t 0], .v (.mv)⟩,
         ⟨some 12, some (10, false), [.t 11, .c (.pv (.int .i64 64))], .v (.bin .and)⟩,
         ⟨some 13, some (10, false), [.t 12, .c (.pv (.int .i64 0))], .v (.bin .neq)⟩,
         ⟨some 14, none, [.t 10, .c (.pv (.bool true)), .t 13], .v (.pick)⟩] [0, 3, 4, 14])
       (.cond (.t 14)
        (.reg [⟨some 15, none, [.t 4], .v (.mv)⟩,
          ⟨some 16, none, [.t 3], .v (.mv)⟩,
          ⟨some 17, none, [.t 16, .c (.pv (.int .i64 1))], .v (.iaddr 4)⟩,
          ⟨some 18, none, [.t 17], .v (.loadE 4 true)⟩,
          ⟨some 19, none, [.t 18], .v (.bslice 4)⟩,
          ⟨some 20, none, [.t 15, .t 19], .append 4 72⟩,
          ⟨some 4, none, [.t 20], .v (.mv)⟩] [0, 3, 4])
        .skip))
      (.seq
       (.seq
        (.reg [⟨some 5, none, [.c (.pv (.int .i64 0))], .v (.mv)⟩] [0, 3, 4, 5])
        (.block 0
         g32L0))
       (.seq
        (.reg [⟨some 44, none, [.t 4], .v (.mv)⟩,
          ⟨some 2, none, [.t 44], .v (.mv)⟩] [2])
        .ret)))))), none, false⟩

/- typedholes/typedholesref3.Int -/
def g34 : AFunc := ⟨0, 2, [.c 0 5 true],
  (.seq
   (.reg [⟨some 0, none, [], .alloc 0 [.int .i64 0, .str [], .int .i64 0, .int .i64 0, .lst []]⟩] [0])
   (.seq
    (.reg [⟨some 1, none, [.c (.pv (.str [73, 110, 116])), .c (.clp [])], .callP 62⟩,
      ⟨none, none, [.t 0, .t 1], .storeL 0 0 5⟩] [0])
    .ret)), none, false⟩

/- typedholes/typedholesref3.Depth -/
def g52B0 : ACode :=
  (.seq
   (.seq
    (.reg [⟨some 5, none, [.t 4], .v (.mv)⟩,
      ⟨some 6, none, [.t 1], .v (.faddr 4)⟩,
      ⟨some 7, none, [.t 6], .loadL 1 4 1 false⟩,
      ⟨some 8, none, [.t 7], .v (.len)⟩,
      ⟨some 9, none, [.t 5, .t 8], .v (.bin .lss)⟩] [1, 3, 4, 9])
    (.cond (.t 9)
     .skip
     (.exit 0)))
   (.seq
    (.block 1
     (.reg [⟨some 12, none, [.t 3], .v (.mv)⟩,
       ⟨some 13, none, [.t 1], .v (.faddr 4)⟩,
       ⟨some 14, none, [.t 13], .loadL 1 4 1 false⟩,
       ⟨some 15, none, [.t 4], .v (.mv)⟩,
       ⟨some 16, none, [.t 14, .t 15], .v (.iaddr 5)⟩,
       ⟨some 17, none, [.t 16], .v (.loadE 5 true)⟩,
       ⟨some 18, none, [.t 17], .callP 52⟩,
       ⟨some 19, none, [.c (.pv (.int .i64 1)), .t 18], .v (.bin .add)⟩,
       ⟨some 20, none, [.t 12, .t 19], .v (.mx)⟩,
       ⟨some 3, none, [.t 20], .v (.mv)⟩] [1, 3, 4]))
    (.reg [⟨some 10, none, [.t 4], .v (.mv)⟩,
      ⟨some 11, none, [.t 10, .c (.pv (.int .i64 1))], .v (.bin .add)⟩,
      ⟨some 4, none, [.t 11], .v (.mv)⟩] [1, 3, 4])))
def g52L0 : ACode := .loop [1, 3, 4] g52B0
theorem g52L0_eq {AP : Nat → Option AFunc} {st : St} : cl AP g52L0 st = after (cl AP g52L0) (cl AP g52B0 (norm (restrict [1, 3, 4] st))) := cl_loop
def g52 : AFunc := ⟨1, 22, [.t 2],
  (.seq
   (.reg [⟨some 1, none, [.t 0], .box 1 5⟩,
     ⟨some 2, none, [.c (.pv (.int .i64 0))], .v (.mv)⟩] [1])
   (.seq
    (.reg [⟨some 3, none, [.c (.pv (.int .i64 0))], .v (.mv)⟩] [1, 3])
    (.seq
     (.seq
      (.reg [⟨some 4, none, [.c (.pv (.int .i64 0))], .v (.mv)⟩] [1, 3, 4])
      (.block 0
       g52L0))
     (.seq
      (.reg [⟨some 21, none, [.t 3], .v (.mv)⟩,
        ⟨some 2, none, [.t 21], .v (.mv)⟩] [2])
      .ret)))), none, false⟩

/- typedholes/typedholesref3.Con -/
def g62 : AFunc := ⟨2, 9, [.c 4 5 true],
  (.seq
   (.reg [⟨some 4, none, [], .alloc 4 [.int .i64 0, .str [], .int .i64 0, .int .i64 0, .lst []]⟩] [0, 1, 4])
   (.seq
    (.reg [⟨some 5, none, [.t 0], .v (.mv)⟩,
      ⟨some 6, none, [.t 1], .v (.mv)⟩,
      ⟨some 7, none, [.c (.clp []), .t 6], .append 5 64⟩,
      ⟨some 8, none, [.c (.pv (.int .i64 4)), .t 5, .t 7], .v (.build [.int .i64 0, .str [], .int .i64 0, .int .i64 0, .lst []] [(0, 1), (1, 1), (4, 1)])⟩,
      ⟨none, none, [.t 4, .t 8], .storeL 4 0 5⟩] [4])
    .ret)), none, false⟩

/- (*typedholes/typedholesmake.Tape).Next -/
def g68 : AFunc := ⟨2, 35, [.t 4],
  (.seq
   (.reg [⟨some 4, none, [.c (.pv (.int .i64 0))], .v (.mv)⟩] [0, 1])
   (.seq
    (.seq
     (.reg [⟨some 5, none, [.t 0], .v (.mv)⟩,
       ⟨some 6, none, [.t 5], .v (.nilchk)⟩,
       ⟨some 7, none, [.t 6], .v (.faddr 1)⟩,
       ⟨some 8, none, [.t 7], .loadS 1 false⟩,
       ⟨some 9, none, [.t 0], .v (.mv)⟩,
       ⟨some 10, none, [.t 9], .v (.nilchk)⟩,
       ⟨some 11, none, [.t 10], .v (.faddr 0)⟩,
       ⟨some 12, none, [.t 11], .loadS 1 false⟩,
       ⟨some 13, none, [.t 12], .v (.len)⟩,
       ⟨some 14, none, [.t 8, .t 13], .v (.bin .geq)⟩] [0, 1, 14])
     (.cond (.t 14)
      (.seq
       (.reg [⟨some 4, none, [.c (.pv (.int .i64 0))], .v (.mv)⟩] [4])
       .ret)
      .skip))
    (.seq
     (.reg [⟨some 15, none, [.t 0], .v (.mv)⟩,
       ⟨some 16, none, [.t 15], .v (.nilchk)⟩,
       ⟨some 17, none, [.t 16], .v (.faddr 1)⟩,
       ⟨some 18, none, [.t 17], .loadS 1 false⟩,
       ⟨some 19, none, [.t 18, .c (.pv (.int .i64 1))], .v (.bin .add)⟩,
       ⟨some 20, none, [.t 15], .v (.nilchk)⟩,
       ⟨some 21, none, [.t 20], .v (.faddr 1)⟩,
       ⟨none, none, [.t 21, .t 19], .storeS 1⟩] [0, 1])
     (.seq
      (.reg [⟨some 22, none, [.t 0], .v (.mv)⟩,
        ⟨some 23, none, [.t 22], .v (.nilchk)⟩,
        ⟨some 24, none, [.t 23], .v (.faddr 0)⟩,
        ⟨some 25, none, [.t 24], .loadS 1 false⟩,
        ⟨some 26, none, [.t 0], .v (.mv)⟩,
        ⟨some 27, none, [.t 26], .v (.nilchk)⟩,
        ⟨some 28, none, [.t 27], .v (.faddr 1)⟩,
        ⟨some 29, none, [.t 28], .loadS 1 false⟩,
        ⟨some 30, none, [.t 29, .c (.pv (.int .i64 1))], .v (.bin .sub)⟩,
        ⟨some 31, none, [.t 25, .t 30], .v (.iaddr 1)⟩,
        ⟨some 32, none, [.t 31], .v (.loadE 1 false)⟩,
        ⟨some 33, none, [.t 1], .v (.mv)⟩,
        ⟨some 34, none, [.t 32, .t 33], .callP 26⟩,
        ⟨some 4, none, [.t 34], .v (.mv)⟩] [4])
      .ret)))), none, false⟩

/- typedholes/typedholesref3.Arrow -/
def g69 : AFunc := ⟨2, 9, [.c 4 5 true],
  (.seq
   (.reg [⟨some 2, none, [.t 0], .box 2 5⟩,
     ⟨some 3, none, [.t 1], .box 3 5⟩,
     ⟨some 4, none, [], .alloc 4 [.int .i64 0, .str [], .int .i64 0, .int .i64 0, .lst []]⟩] [2, 3, 4])
   (.seq
    (.reg [⟨some 5, none, [.t 2], .loadL 2 0 5 true⟩,
      ⟨some 6, none, [.t 3], .loadL 3 0 5 true⟩,
      ⟨some 7, none, [.t 5, .t 6], .v (.bslice 5)⟩,
      ⟨some 8, none, [.c (.pv (.str [45, 62])), .t 7], .callP 62⟩,
      ⟨none, none, [.t 4, .t 8], .storeL 4 0 5⟩] [4])
    .ret)), none, false⟩

/- typedholes/typedholesref2.Lower -/
def g77 : AFunc := ⟨1, 20, [.t 2],
  (.seq
   (.reg [⟨some 2, none, [.c (.pv (.bool false))], .v (.mv)⟩] [0])
   (.seq
    (.reg [⟨some 3, none, [.t 0], .v (.mv)⟩,
      ⟨some 4, none, [.t 3], .callP 108⟩,
      ⟨some 5, none, [.t 4], .v (.mv)⟩,
      ⟨some 6, some (5, true), [.t 0], .v (.mv)⟩,
      ⟨some 7, some (5, true), [.t 6, .c (.pv (.int .i64 0))], .v (.index)⟩,
      ⟨some 8, some (5, true), [.t 7], .callP 109⟩,
      ⟨some 9, none, [.t 5, .t 8, .c (.pv (.bool false))], .v (.pick)⟩,
      ⟨some 10, none, [.t 9], .v (.mv)⟩,
      ⟨some 11, some (10, true), [.t 0], .v (.mv)⟩,
      ⟨some 12, some (10, true), [.t 11], .v (.lenS)⟩,
      ⟨some 13, some (10, true), [.t 12, .c (.pv (.int .i64 12))], .v (.bin .leq)⟩,
      ⟨some 14, none, [.t 10, .t 13, .c (.pv (.bool false))], .v (.pick)⟩,
      ⟨some 15, none, [.t 14], .v (.mv)⟩,
      ⟨some 16, some (15, true), [.t 0], .v (.mv)⟩,
      ⟨some 17, some (15, true), [.t 16], .callP 110⟩,
      ⟨some 18, some (15, true), [.t 17], .v (.un .not)⟩,
      ⟨some 19, none, [.t 15, .t 18, .c (.pv (.bool false))], .v (.pick)⟩,
      ⟨some 2, none, [.t 19], .v (.mv)⟩] [2])
    .ret)), none, false⟩

/- typedholes/typedholesref2.Upper -/
def g78 : AFunc := ⟨1, 15, [.t 2],
  (.seq
   (.reg [⟨some 2, none, [.c (.pv (.bool false))], .v (.mv)⟩] [0])
   (.seq
    (.reg [⟨some 3, none, [.t 0], .v (.mv)⟩,
      ⟨some 4, none, [.t 3], .callP 108⟩,
      ⟨some 5, none, [.t 4], .v (.mv)⟩,
      ⟨some 6, some (5, true), [.t 0], .v (.mv)⟩,
      ⟨some 7, some (5, true), [.t 6, .c (.pv (.int .i64 0))], .v (.index)⟩,
      ⟨some 8, some (5, true), [.t 7], .callP 111⟩,
      ⟨some 9, none, [.t 5, .t 8, .c (.pv (.bool false))], .v (.pick)⟩,
      ⟨some 10, none, [.t 9], .v (.mv)⟩,
      ⟨some 11, some (10, true), [.t 0], .v (.mv)⟩,
      ⟨some 12, some (10, true), [.t 11], .v (.lenS)⟩,
      ⟨some 13, some (10, true), [.t 12, .c (.pv (.int .i64 12))], .v (.bin .leq)⟩,
      ⟨some 14, none, [.t 10, .t 13, .c (.pv (.bool false))], .v (.pick)⟩,
      ⟨some 2, none, [.t 14], .v (.mv)⟩] [2])
    .ret)), none, false⟩

/- typedholes/typedholesmake.all -/
def g79 : AFunc := ⟨0, 9, [.t 0],
  (.seq
   (.reg [⟨some 0, none, [.c (.clp [])], .v (.mv)⟩] [])
   (.seq
    (.reg [⟨some 4, none, [.c (.pv (.str [100, 97, 116, 97, 32, 66, 111, 111, 108, 32, 61, 32, 84, 114, 117, 101, 32, 124, 32, 70, 97, 108, 115, 101, 59, 32, 100, 97, 116, 97, 32, 79, 112, 116, 105, 111, 110, 32, 97, 32, 61, 32, 78, 111, 110, 101, 32, 124, 32, 83, 111, 109, 101, 32, 97, 59, 32, 100, 97, 116, 97, 32, 76, 105, 115, 116, 32, 97, 32, 61, 32, 78, 105, 108, 32, 124, 32, 67, 111, 110, 115, 32, 97, 32, 40, 76, 105, 115, 116, 32, 97, 41, 59, 100, 97, 116, 97, 32, 80, 97, 105, 114, 32, 97, 32, 98, 32, 61, 32, 80, 97, 105, 114, 32, 97, 32, 98, 59, 32, 100, 97, 116, 97, 32, 78, 97, 116, 32, 61, 32, 90, 101, 114, 111, 32, 124, 32, 83, 117, 99, 99, 32, 78, 97, 116, 59, 32, 100, 97, 116, 97, 32, 70, 117, 110, 32, 97, 32, 98, 32, 61, 32, 70, 117, 110, 32, 40, 97, 32, 45, 62, 32, 98, 41, 59, 32, 100, 97, 116, 97, 32, 84, 119, 111, 32, 97, 32, 61, 32, 66, 111, 116, 104, 32, 97, 32, 97, 32, 124, 32, 79, 110, 101, 32, 40, 79, 112, 116, 105, 111, 110, 32, 97, 41, 59]))], .callP 112⟩,
      ⟨some 3, none, [.t 4], .v (.mv)⟩,
      ⟨some 5, none, [.t 3], .v (.ext 0)⟩,
      ⟨some 6, none, [.t 3], .v (.ext 1)⟩,
      ⟨some 1, none, [], .alloc 1 [.lst [], .lst []]⟩,
      ⟨some 2, none, [], .alloc 2 [.int .i64 0, .int .i64 0]⟩,
      ⟨none, none, [.t 1, .t 5], .storeL 1 0 2⟩,
      ⟨none, none, [.t 2, .t 6], .storeL 2 0 2⟩] [1])
    (.seq
     (.reg [⟨some 7, none, [.t 1], .v (.faddr 0)⟩,
       ⟨some 8, none, [.t 7], .loadL 1 0 1 false⟩,
       ⟨some 0, none, [.t 8], .v (.mv)⟩] [0])
     .ret))), none, false⟩

/- typedholes/typedholesref3.Named -/
def g106 : AFunc := ⟨1, 5, [.c 2 5 true],
  (.seq
   (.reg [⟨some 2, none, [], .alloc 2 [.int .i64 0, .str [], .int .i64 0, .int .i64 0, .lst []]⟩] [0, 2])
   (.seq
    (.reg [⟨some 3, none, [.t 0], .v (.mv)⟩,
      ⟨some 4, none, [.c (.pv (.int .i64 5)), .t 3], .v (.build [.int .i64 0, .str [], .int .i64 0, .int .i64 0, .lst []] [(0, 1), (1, 1)])⟩,
      ⟨none, none, [.t 2, .t 4], .storeL 2 0 5⟩] [2])
    .ret)), none, false⟩

/- typedholes/typedholesref2.word -/
def g108B0 : ACode :=
  (.seq
   (.seq
    (.reg [⟨some 4, none, [.t 3], .v (.mv)⟩,
      ⟨some 5, none, [.t 0], .v (.mv)⟩,
      ⟨some 6, none, [.t 5], .v (.lenS)⟩,
      ⟨some 7, none, [.t 4, .t 6], .v (.bin .lss)⟩] [0, 3, 7])
    (.cond (.t 7)
     .skip
     (.exit 0)))
   (.seq
    (.block 1
     (.seq
      (.reg [⟨some 10, none, [.t 0], .v (.mv)⟩,
        ⟨some 11, none, [.t 3], .v (.mv)⟩,
        ⟨some 12, none, [.t 10, .t 11], .v (.index)⟩,
        ⟨some 13, none, [.t 12], .callP 117⟩,
        ⟨some 14, none, [.t 13], .v (.un .not)⟩] [0, 3, 14])
      (.cond (.t 14)
       (.seq
        (.reg [⟨some 2, none, [.c (.pv (.bool false))], .v (.mv)⟩] [2])
        .ret)
       .skip)))
    (.reg [⟨some 8, none, [.t 3], .v (.mv)⟩,
      ⟨some 9, none, [.t 8, .c (.pv (.int .i64 1))], .v (.bin .add)⟩,
      ⟨some 3, none, [.t 9], .v (.mv)⟩] [0, 3])))
def g108L0 : ACode := .loop [0, 3] g108B0
theorem g108L0_eq {AP : Nat → Option AFunc} {st : St} : cl AP g108L0 st = after (cl AP g108L0) (cl AP g108B0 (norm (restrict [0, 3] st))) := cl_loop
def g108 : AFunc := ⟨1, 17, [.t 2],
  (.seq
   (.reg [⟨some 2, none, [.c (.pv (.bool false))], .v (.mv)⟩] [0])
   (.seq
    (.seq
     (.reg [⟨some 3, none, [.c (.pv (.int .i64 0))], .v (.mv)⟩] [0, 3])
     (.block 0
      g108L0))
    (.seq
     (.reg [⟨some 15, none, [.t 0], .v (.mv)⟩,
       ⟨some 16, none, [.t 15, .c (.pv (.str []))], .v (.bin .neq)⟩,
       ⟨some 2, none, [.t 16], .v (.mv)⟩] [2])
     .ret))), none, false⟩

/- typedholes/typedholesref2.lower -/
def g109 : AFunc := ⟨1, 9, [.t 2],
  (.seq
   (.reg [⟨some 2, none, [.c (.pv (.bool false))], .v (.mv)⟩] [0])
   (.seq
    (.reg [⟨some 3, none, [.t 0], .v (.mv)⟩,
      ⟨some 4, none, [.t 3, .c (.pv (.int .u8 97))], .v (.bin .geq)⟩,
      ⟨some 5, none, [.t 4], .v (.mv)⟩,
      ⟨some 6, some (5, true), [.t 0], .v (.mv)⟩,
      ⟨some 7, some (5, true), [.t 6, .c (.pv (.int .u8 122))], .v (.bin .leq)⟩,
      ⟨some 8, none, [.t 5, .t 7, .c (.pv (.bool false))], .v (.pick)⟩,
      ⟨some 2, none, [.t 8], .v (.mv)⟩] [2])
    .ret)), none, false⟩

/- typedholes/typedholesref2.Keyword -/
def g110B0 : ACode :=
  (.seq
   (.seq
    (.reg [⟨some 6, none, [.t 4], .v (.mv)⟩,
      ⟨some 7, none, [.t 3], .v (.mv)⟩,
      ⟨some 8, none, [.t 7], .v (.len)⟩,
      ⟨some 9, none, [.t 6, .t 8], .v (.bin .lss)⟩] [0, 3, 4, 9])
    (.cond (.t 9)
     .skip
     (.exit 0)))
   (.seq
    (.block 1
     (.seq
      (.reg [⟨some 12, none, [.t 3], .v (.mv)⟩,
        ⟨some 13, none, [.t 4], .v (.mv)⟩,
        ⟨some 14, none, [.t 12, .t 13], .v (.iaddr 1)⟩,
        ⟨some 15, none, [.t 14], .v (.loadE 1 false)⟩,
        ⟨some 16, none, [.t 0], .v (.mv)⟩,
        ⟨some 17, none, [.t 15, .t 16], .v (.bin .eql)⟩] [0, 3, 4, 17])
      (.cond (.t 17)
       (.seq
        (.reg [⟨some 2, none, [.c (.pv (.bool true))], .v (.mv)⟩] [2])
        .ret)
       .skip)))
    (.reg [⟨some 10, none, [.t 4], .v (.mv)⟩,
      ⟨some 11, none, [.t 10, .c (.pv (.int .i64 1))], .v (.bin .add)⟩,
      ⟨some 4, none, [.t 11], .v (.mv)⟩] [0, 3, 4])))
def g110L0 : ACode := .loop [0, 3, 4] g110B0
theorem g110L0_eq {AP : Nat → Option AFunc} {st : St} : cl AP g110L0 st = after (cl AP g110L0) (cl AP g110B0 (norm (restrict [0, 3, 4] st))) := cl_loop
def g110 : AFunc := ⟨1, 18, [.t 2],
  (.seq
   (.reg [⟨some 2, none, [.c (.pv (.bool false))], .v (.mv)⟩] [0])
   (.seq
    (.reg [⟨some 5, none, [.c (.pv (.str [100, 97, 116, 97])), .c (.pv (.str [108, 101, 116])), .c (.pv (.str [114, 101, 99])), .c (.pv (.str [105, 110])), .c (.pv (.str [99, 97, 115, 101])), .c (.pv (.str [111, 102])), .c (.pv (.str [101, 110, 100]))], .v (.bslice 1)⟩,
      ⟨some 3, none, [.t 5], .v (.mv)⟩] [0, 3])
    (.seq
     (.seq
      (.reg [⟨some 4, none, [.c (.pv (.int .i64 0))], .v (.mv)⟩] [0, 3, 4])
      (.block 0
       g110L0))
     (.seq
      (.reg [⟨some 2, none, [.c (.pv (.bool false))], .v (.mv)⟩] [2])
      .ret)))), none, false⟩

/- typedholes/typedholesref2.upper -/
def g111 : AFunc := ⟨1, 9, [.t 2],
  (.seq
   (.reg [⟨some 2, none, [.c (.pv (.bool false))], .v (.mv)⟩] [0])
   (.seq
    (.reg [⟨some 3, none, [.t 0], .v (.mv)⟩,
      ⟨some 4, none, [.t 3, .c (.pv (.int .u8 65))], .v (.bin .geq)⟩,
      ⟨some 5, none, [.t 4], .v (.mv)⟩,
      ⟨some 6, some (5, true), [.t 0], .v (.mv)⟩,
      ⟨some 7, some (5, true), [.t 6, .c (.pv (.int .u8 90))], .v (.bin .leq)⟩,
      ⟨some 8, none, [.t 5, .t 7, .c (.pv (.bool false))], .v (.pick)⟩,
      ⟨some 2, none, [.t 8], .v (.mv)⟩] [2])
    .ret)), none, false⟩

/- typedholes/typedholesref7.Parse -/
def g112B0 : ACode :=
  (.seq
   (.seq
    (.reg [⟨some 20, none, [.t 7], .v (.mv)⟩,
      ⟨some 21, none, [.t 20], .v (.nilchk)⟩,
      ⟨some 22, none, [.t 21], .v (.faddr 2)⟩,
      ⟨some 23, none, [.t 22], .loadS 1 false⟩,
      ⟨some 24, none, [.t 23], .v (.un .not)⟩,
      ⟨some 25, none, [.t 24], .v (.mv)⟩,
      ⟨some 26, some (25, true), [.t 7], .v (.mv)⟩,
      ⟨some 27, some (25, true), [.t 26], .v (.nilchk)⟩,
      ⟨some 28, some (25, true), [.t 27], .v (.faddr 1)⟩,
      ⟨some 29, some (25, true), [.t 28], .loadS 1 false⟩,
      ⟨some 30, some (25, true), [.t 4], .v (.mv)⟩,
      ⟨some 31, some (25, true), [.t 30], .v (.len)⟩,
      ⟨some 32, some (25, true), [.t 29, .t 31], .v (.bin .lss)⟩,
      ⟨some 33, none, [.t 25, .t 32, .c (.pv (.bool false))], .v (.pick)⟩] [2, 3, 4, 5, 6, 7, 33])
    (.cond (.t 33)
     .skip
     (.exit 0)))
   (.block 1
    (.seq
     (.reg [⟨some 34, none, [.t 7], .v (.mv)⟩,
       ⟨some 35, none, [.t 34, .c (.pv (.str [100, 97, 116, 97]))], .callI 120 []⟩] [2, 3, 4, 5, 6, 7, 35])
     (.cond (.t 35)
      (.reg [⟨some 36, none, [.t 6], .v (.faddr 0)⟩,
        ⟨some 37, none, [.t 36], .loadL 6 0 1 false⟩,
        ⟨some 38, none, [.t 7], .v (.mv)⟩,
        ⟨some 39, none, [.t 38], .callI 121 []⟩,
        ⟨some 40, none, [.t 39], .v (.bslice 4)⟩,
        ⟨some 41, none, [.t 37, .t 40], .append 4 72⟩,
        ⟨some 42, none, [.t 6], .v (.faddr 0)⟩,
        ⟨none, none, [.t 42, .t 41], .storeL 6 0 1⟩] [2, 3, 4, 5, 6, 7])
      (.reg [⟨some 43, none, [.t 6], .v (.faddr 1)⟩,
        ⟨some 44, none, [.t 43], .loadL 6 1 1 false⟩,
        ⟨some 45, none, [.t 7], .v (.mv)⟩,
        ⟨some 46, none, [.t 45], .callI 122 []⟩,
        ⟨some 47, none, [.t 46], .v (.bslice 20)⟩,
        ⟨some 48, none, [.t 44, .t 47], .append 20 256⟩,
        ⟨some 49, none, [.t 6], .v (.faddr 1)⟩,
        ⟨none, none, [.t 49, .t 48], .storeL 6 1 1⟩] [2, 3, 4, 5, 6, 7])))))
def g112L0 : ACode := .loop [2, 3, 4, 5, 6, 7] g112B0
theorem g112L0_eq {AP : Nat → Option AFunc} {st : St} : cl AP g112L0 st = after (cl AP g112L0) (cl AP g112B0 (norm (restrict [2, 3, 4, 5, 6, 7] st))) := cl_loop
def g112 : AFunc := ⟨1, 69, [.c 2 2 true, .c 3 2 true],
  (.seq
   (.reg [⟨some 2, none, [], .alloc 2 [.lst [], .lst []]⟩,
     ⟨some 3, none, [], .alloc 3 [.int .i64 0, .int .i64 0]⟩] [0, 2, 3])
   (.seq
    (.reg [⟨some 9, none, [.t 0], .v (.mv)⟩,
      ⟨some 10, none, [.t 9], .callP 118⟩,
      ⟨some 8, none, [.t 10], .v (.mv)⟩,
      ⟨some 11, none, [.t 8], .v (.ext 0)⟩,
      ⟨some 12, none, [.t 8], .v (.ext 1)⟩,
      ⟨some 5, none, [], .alloc 5 [.int .i64 0, .int .i64 0]⟩,
      ⟨some 4, none, [.t 11], .v (.mv)⟩,
      ⟨none, none, [.t 5, .t 12], .storeL 5 0 2⟩] [2, 3, 4, 5])
    (.seq
     (.seq
      (.reg [⟨some 13, none, [.t 5], .v (.faddr 0)⟩,
        ⟨some 14, none, [.t 13], .loadL 5 0 1 false⟩,
        ⟨some 15, none, [.t 14, .c (.pv (.int .i64 0))], .v (.bin .neq)⟩] [2, 3, 4, 5, 15])
      (.cond (.t 15)
       (.seq
        (.reg [⟨some 16, none, [], .v (.build [.lst [], .lst []] [])⟩,
          ⟨some 17, none, [.t 5], .loadL 5 0 2 true⟩,
          ⟨none, none, [.t 2, .t 16], .storeL 2 0 2⟩,
          ⟨none, none, [.t 3, .t 17], .storeL 3 0 2⟩] [2, 3])
        .ret)
       .skip))
     (.seq
      (.reg [⟨some 6, none, [], .alloc 6 [.lst [], .lst []]⟩] [2, 3, 4, 5, 6])
      (.seq
       (.reg [⟨some 18, none, [.t 4], .v (.mv)⟩,
         ⟨some 19, none, [.t 18, .c (.pv (.int .i64 0))], .callI 119 []⟩,
         ⟨some 7, none, [.t 19], .v (.mv)⟩] [2, 3, 4, 5, 6, 7])
       (.seq
        (.block 0
         g112L0)
        (.seq
         (.seq
          (.reg [⟨some 50, none, [.t 7], .v (.mv)⟩,
            ⟨some 51, none, [.t 50], .v (.nilchk)⟩,
            ⟨some 52, none, [.t 51], .v (.faddr 2)⟩,
            ⟨some 53, none, [.t 52], .loadS 1 false⟩] [2, 3, 5, 6, 7, 53])
          (.cond (.t 53)
           (.seq
            (.reg [⟨some 54, none, [], .v (.build [.lst [], .lst []] [])⟩,
              ⟨some 55, none, [.t 7], .v (.mv)⟩,
              ⟨some 56, none, [.t 55], .v (.nilchk)⟩,
              ⟨some 57, none, [.t 56], .v (.faddr 3)⟩,
              ⟨some 58, none, [.t 57], .loadS 1 false⟩,
              ⟨some 59, none, [.c (.pv (.int .i64 3)), .t 58], .v (.build [.int .i64 0, .int .i64 0] [(0, 1), (1, 1)])⟩,
              ⟨none, none, [.t 2, .t 54], .storeL 2 0 2⟩,
              ⟨none, none, [.t 3, .t 59], .storeL 3 0 2⟩] [2, 3])
            .ret)
           .skip))
         (.seq
          (.seq
           (.reg [⟨some 60, none, [.t 6], .loadL 6 0 2 true⟩,
             ⟨some 61, none, [.t 60], .callP 123⟩,
             ⟨none, none, [.t 5, .t 61], .storeL 5 0 2⟩] [2, 3, 5, 6])
           (.seq
            (.reg [⟨some 62, none, [.t 5], .v (.faddr 0)⟩,
              ⟨some 63, none, [.t 62], .loadL 5 0 1 false⟩,
              ⟨some 64, none, [.t 63, .c (.pv (.int .i64 0))], .v (.bin .neq)⟩] [2, 3, 5, 6, 64])
            (.cond (.t 64)
             (.seq
              (.reg [⟨some 65, none, [], .v (.build [.lst [], .lst []] [])⟩,
                ⟨some 66, none, [.t 5], .loadL 5 0 2 true⟩,
                ⟨none, none, [.t 2, .t 65], .storeL 2 0 2⟩,
                ⟨none, none, [.t 3, .t 66], .storeL 3 0 2⟩] [2, 3])
              .ret)
             .skip)))
          (.seq
           (.reg [⟨some 67, none, [.t 6], .loadL 6 0 2 true⟩,
             ⟨some 68, none, [.t 5], .loadL 5 0 2 true⟩,
             ⟨none, none, [.t 2, .t 67], .storeL 2 0 2⟩,
             ⟨none, none, [.t 3, .t 68], .storeL 3 0 2⟩] [2, 3])
           .ret))))))))), none, true⟩

/- typedholes/typedholesref2.inner -/
def g117 : AFunc := ⟨1, 17, [.t 2],
  (.seq
   (.reg [⟨some 2, none, [.c (.pv (.bool false))], .v (.mv)⟩] [0])
   (.seq
    (.reg [⟨some 3, none, [.t 0], .v (.mv)⟩,
      ⟨some 4, none, [.t 3], .callP 109⟩,
      ⟨some 5, none, [.t 4], .v (.mv)⟩,
      ⟨some 6, some (5, false), [.t 0], .v (.mv)⟩,
      ⟨some 7, some (5, false), [.t 6], .callP 111⟩,
      ⟨some 8, none, [.t 5, .c (.pv (.bool true)), .t 7], .v (.pick)⟩,
      ⟨some 9, none, [.t 8], .v (.mv)⟩,
      ⟨some 10, some (9, false), [.t 0], .v (.mv)⟩,
      ⟨some 11, some (9, false), [.t 10], .callP 124⟩,
      ⟨some 12, none, [.t 9, .c (.pv (.bool true)), .t 11], .v (.pick)⟩,
      ⟨some 13, none, [.t 12], .v (.mv)⟩,
      ⟨some 14, some (13, false), [.t 0], .v (.mv)⟩,
      ⟨some 15, some (13, false), [.t 14, .c (.pv (.int .u8 95))], .v (.bin .eql)⟩,
      ⟨some 16, none, [.t 13, .c (.pv (.bool true)), .t 15], .v (.pick)⟩,
      ⟨some 2, none, [.t 16], .v (.mv)⟩] [2])
    .ret)), none, false⟩

/- typedholes/typedholesref2.Scan -/
def g118B1 : ACode :=
  (.seq
   (.seq
    (.reg [⟨some 42, none, [.t 5], .v (.mv)⟩,
      ⟨some 43, none, [.t 0], .v (.mv)⟩,
      ⟨some 44, none, [.t 43], .v (.lenS)⟩,
      ⟨some 45, none, [.t 42, .t 44], .v (.bin .lss)⟩,
      ⟨some 46, none, [.t 45], .v (.mv)⟩,
      ⟨some 47, some (46, true), [.t 0], .v (.mv)⟩,
      ⟨some 48, some (46, true), [.t 5], .v (.mv)⟩,
      ⟨some 49, some (46, true), [.t 47, .t 48], .v (.index)⟩,
      ⟨some 50, some (46, true), [.t 49, .c (.pv (.int .u8 10))], .v (.bin .neq)⟩,
      ⟨some 51, none, [.t 46, .t 50, .c (.pv (.bool false))], .v (.pick)⟩] [0, 3, 4, 5, 51])
    (.cond (.t 51)
     .skip
     (.exit 3)))
   (.block 4
    (.reg [⟨some 52, none, [.t 5], .v (.mv)⟩,
      ⟨some 53, none, [.t 52, .c (.pv (.int .i64 1))], .v (.bin .add)⟩,
      ⟨some 5, none, [.t 53], .v (.mv)⟩] [0, 3, 4, 5])))
def g118L1 : ACode := .loop [0, 3, 4, 5] g118B1
theorem g118L1_eq {AP : Nat → Option AFunc} {st : St} : cl AP g118L1 st = after (cl AP g118L1) (cl AP g118B1 (norm (restrict [0, 3, 4, 5] st))) := cl_loop
def g118B2 : ACode :=
  (.seq
   (.seq
    (.reg [⟨some 57, none, [.t 7], .v (.mv)⟩,
      ⟨some 58, none, [.t 0], .v (.mv)⟩,
      ⟨some 59, none, [.t 58], .v (.lenS)⟩,
      ⟨some 60, none, [.t 57, .t 59], .v (.bin .lss)⟩,
      ⟨some 61, none, [.t 60], .v (.mv)⟩,
      ⟨some 62, some (61, true), [.t 0], .v (.mv)⟩,
      ⟨some 63, some (61, true), [.t 7], .v (.mv)⟩,
      ⟨some 64, some (61, true), [.t 62, .t 63], .v (.index)⟩,
      ⟨some 65, some (61, true), [.t 64], .callP 117⟩,
      ⟨some 66, none, [.t 61, .t 65, .c (.pv (.bool false))], .v (.pick)⟩] [0, 3, 4, 5, 7, 66])
    (.cond (.t 66)
     .skip
     (.exit 5)))
   (.block 6
    (.reg [⟨some 67, none, [.t 7], .v (.mv)⟩,
      ⟨some 68, none, [.t 67, .c (.pv (.int .i64 1))], .v (.bin .add)⟩,
      ⟨some 7, none, [.t 68], .v (.mv)⟩] [0, 3, 4, 5, 7])))
def g118L2 : ACode := .loop [0, 3, 4, 5, 7] g118B2
theorem g118L2_eq {AP : Nat → Option AFunc} {st : St} : cl AP g118L2 st = after (cl AP g118L2) (cl AP g118B2 (norm (restrict [0, 3, 4, 5, 7] st))) := cl_loop
def g118B0 : ACode :=
  (.seq
   (.seq
    (.reg [⟨some 13, none, [.t 5], .v (.mv)⟩,
      ⟨some 14, none, [.t 0], .v (.mv)⟩,
      ⟨some 15, none, [.t 14], .v (.lenS)⟩,
      ⟨some 16, none, [.t 13, .t 15], .v (.bin .lss)⟩] [0, 3, 4, 5, 16])
    (.cond (.t 16)
     .skip
     (.exit 0)))
   (.block 1
    (.seq
     (.reg [⟨some 17, none, [.t 0], .v (.mv)⟩,
       ⟨some 18, none, [.t 5], .v (.mv)⟩,
       ⟨some 19, none, [.t 17, .t 18], .v (.index)⟩,
       ⟨some 6, none, [.t 19], .v (.mv)⟩] [0, 3, 4, 5, 6])
     (.seq
      (.reg [⟨some 20, none, [.t 5], .v (.mv)⟩,
        ⟨some 21, none, [.t 20, .c (.pv (.int .i64 1))], .v (.bin .add)⟩,
        ⟨some 7, none, [.t 21], .v (.mv)⟩] [0, 3, 4, 5, 6, 7])
      (.seq
       (.block 2
        (.seq
         (.reg [⟨some 23, none, [.t 6], .v (.mv)⟩,
           ⟨some 24, none, [.t 23, .c (.pv (.int .u8 32))], .v (.bin .eql)⟩,
           ⟨some 25, none, [.t 24], .v (.mv)⟩,
           ⟨some 26, some (25, false), [.t 6], .v (.mv)⟩,
           ⟨some 27, some (25, false), [.t 26, .c (.pv (.int .u8 9))], .v (.bin .eql)⟩,
           ⟨some 28, none, [.t 25, .c (.pv (.bool true)), .t 27], .v (.pick)⟩,
           ⟨some 29, none, [.t 28], .v (.mv)⟩,
           ⟨some 30, some (29, false), [.t 6], .v (.mv)⟩,
           ⟨some 31, some (29, false), [.t 30, .c (.pv (.int .u8 13))], .v (.bin .eql)⟩,
           ⟨some 32, none, [.t 29, .c (.pv (.bool true)), .t 31], .v (.pick)⟩,
           ⟨some 33, none, [.t 32], .v (.mv)⟩,
           ⟨some 34, some (33, false), [.t 6], .v (.mv)⟩,
           ⟨some 35, some (33, false), [.t 34, .c (.pv (.int .u8 10))], .v (.bin .eql)⟩,
           ⟨some 36, none, [.t 33, .c (.pv (.bool true)), .t 35], .v (.pick)⟩,
           ⟨some 22, none, [.t 36], .v (.mv)⟩] [0, 3, 4, 5, 6, 7, 22])
         (.cond (.t 22)
          (.seq
           (.reg [⟨some 37, none, [.t 5], .v (.mv)⟩,
             ⟨some 38, none, [.t 37, .c (.pv (.int .i64 1))], .v (.bin .add)⟩,
             ⟨some 5, none, [.t 38], .v (.mv)⟩] [0, 3, 4, 5])
           (.exit 1))
          (.seq
           (.reg [⟨some 40, none, [.t 6], .v (.mv)⟩,
             ⟨some 41, none, [.t 40, .c (.pv (.int .u8 35))], .v (.bin .eql)⟩,
             ⟨some 39, none, [.t 41], .v (.mv)⟩] [0, 3, 4, 5, 6, 7, 39])
           (.cond (.t 39)
            (.seq
             (.block 3
              g118L1)
             (.exit 1))
            (.seq
             (.reg [⟨some 55, none, [.t 6], .v (.mv)⟩,
               ⟨some 56, none, [.t 55], .callP 117⟩,
               ⟨some 54, none, [.t 56], .v (.mv)⟩] [0, 3, 4, 5, 6, 7, 54])
             (.cond (.t 54)
              (.block 5
               g118L2)
              (.seq
               (.reg [⟨some 70, none, [.t 6], .v (.mv)⟩,
                 ⟨some 71, none, [.t 70, .c (.pv (.int .u8 45))], .v (.bin .eql)⟩,
                 ⟨some 72, none, [.t 71], .v (.mv)⟩,
                 ⟨some 73, some (72, true), [.t 7], .v (.mv)⟩,
                 ⟨some 74, some (72, true), [.t 0], .v (.mv)⟩,
                 ⟨some 75, some (72, true), [.t 74], .v (.lenS)⟩,
                 ⟨some 76, some (72, true), [.t 73, .t 75], .v (.bin .lss)⟩,
                 ⟨some 77, none, [.t 72, .t 76, .c (.pv (.bool false))], .v (.pick)⟩,
                 ⟨some 78, none, [.t 77], .v (.mv)⟩,
                 ⟨some 79, some (78, true), [.t 0], .v (.mv)⟩,
                 ⟨some 80, some (78, true), [.t 7], .v (.mv)⟩,
                 ⟨some 81, some (78, true), [.t 79, .t 80], .v (.index)⟩,
                 ⟨some 82, some (78, true), [.t 81, .c (.pv (.int .u8 62))], .v (.bin .eql)⟩,
                 ⟨some 83, none, [.t 78, .t 82, .c (.pv (.bool false))], .v (.pick)⟩,
                 ⟨some 69, none, [.t 83], .v (.mv)⟩] [0, 3, 4, 5, 7, 69])
               (.cond (.t 69)
                (.reg [⟨some 84, none, [.t 7], .v (.mv)⟩,
                  ⟨some 85, none, [.t 84, .c (.pv (.int .i64 1))], .v (.bin .add)⟩,
                  ⟨some 7, none, [.t 85], .v (.mv)⟩] [0, 3, 4, 5, 7])
                .skip)))))))))
       (.seq
        (.reg [⟨some 86, none, [.t 0], .v (.mv)⟩,
          ⟨some 87, none, [.t 5], .v (.mv)⟩,
          ⟨some 88, none, [.t 7], .v (.mv)⟩,
          ⟨some 89, none, [.t 86, .t 87, .t 88], .v (.slice true 0 true true false)⟩,
          ⟨some 90, none, [.t 89], .callP 125⟩,
          ⟨some 8, none, [.t 90], .v (.mv)⟩] [0, 3, 4, 5, 7, 8])
        (.seq
         (.seq
          (.reg [⟨some 91, none, [.t 8], .v (.mv)⟩,
            ⟨some 92, none, [.t 91, .c (.pv (.int .i64 0))], .v (.bin .eql)⟩] [0, 3, 4, 5, 7, 8, 92])
          (.cond (.t 92)
           (.seq
            (.reg [⟨some 93, none, [.t 5], .v (.mv)⟩,
              ⟨some 94, none, [.c (.pv (.int .i64 2)), .t 93], .v (.build [.int .i64 0, .int .i64 0] [(0, 1), (1, 1)])⟩,
              ⟨some 2, none, [.c (.clp [])], .v (.mv)⟩,
              ⟨none, none, [.t 3, .t 94], .storeL 3 0 2⟩] [2, 3])
            .ret)
           .skip))
         (.seq
          (.reg [⟨some 95, none, [.t 4], .v (.mv)⟩,
            ⟨some 96, none, [.t 8], .v (.mv)⟩,
            ⟨some 97, none, [.t 0], .v (.mv)⟩,
            ⟨some 98, none, [.t 5], .v (.mv)⟩,
            ⟨some 99, none, [.t 7], .v (.mv)⟩,
            ⟨some 100, none, [.t 97, .t 98, .t 99], .v (.slice true 0 true true false)⟩,
            ⟨some 101, none, [.t 5], .v (.mv)⟩,
            ⟨some 102, none, [.t 96, .t 100, .t 101], .v (.build [.int .i64 0, .str [], .int .i64 0] [(0, 1), (1, 1), (2, 1)])⟩,
            ⟨some 103, none, [.t 102], .v (.bslice 3)⟩,
            ⟨some 104, none, [.t 95, .t 103], .append 3 32⟩,
            ⟨some 4, none, [.t 104], .v (.mv)⟩] [0, 3, 4, 7])
          (.reg [⟨some 105, none, [.t 7], .v (.mv)⟩,
            ⟨some 5, none, [.t 105], .v (.mv)⟩] [0, 3, 4, 5])))))))))
def g118L0 : ACode := .loop [0, 3, 4, 5] g118B0
theorem g118L0_eq {AP : Nat → Option AFunc} {st : St} : cl AP g118L0 st = after (cl AP g118L0) (cl AP g118B0 (norm (restrict [0, 3, 4, 5] st))) := cl_loop
def g118 : AFunc := ⟨1, 108, [.t 2, .c 3 2 true],
  (.seq
   (.reg [⟨some 2, none, [.c (.clp [])], .v (.mv)⟩,
     ⟨some 3, none, [], .alloc 3 [.int .i64 0, .int .i64 0]⟩] [0, 3])
   (.seq
    (.seq
     (.reg [⟨some 9, none, [.t 0], .v (.mv)⟩,
       ⟨some 10, none, [.t 9], .v (.lenS)⟩,
       ⟨some 11, none, [.t 10, .c (.pv (.int .i64 4000))], .v (.bin .gtr)⟩] [0, 3, 11])
     (.cond (.t 11)
      (.seq
       (.reg [⟨some 12, none, [.c (.pv (.int .i64 1))], .v (.build [.int .i64 0, .int .i64 0] [(0, 1)])⟩,
         ⟨some 2, none, [.c (.clp [])], .v (.mv)⟩,
         ⟨none, none, [.t 3, .t 12], .storeL 3 0 2⟩] [2, 3])
       .ret)
      .skip))
    (.seq
     (.reg [⟨some 4, none, [.c (.clp [])], .v (.mv)⟩] [0, 3, 4])
     (.seq
      (.seq
       (.reg [⟨some 5, none, [.c (.pv (.int .i64 0))], .v (.mv)⟩] [0, 3, 4, 5])
       (.block 0
        g118L0))
      (.seq
       (.reg [⟨some 106, none, [.t 4], .v (.mv)⟩,
         ⟨some 107, none, [], .v (.build [.int .i64 0, .int .i64 0] [])⟩,
         ⟨some 2, none, [.t 106], .v (.mv)⟩,
         ⟨none, none, [.t 3, .t 107], .storeL 3 0 2⟩] [2, 3])
       .ret))))), none, false⟩

/- typedholes/typedholesref5.New -/
def g119 : AFunc := ⟨2, 19, [.t 4],
  (.seq
   (.reg [⟨some 4, none, [.c (.nilp)], .v (.mv)⟩] [0, 1])
   (.seq
    (.seq
     (.reg [⟨some 5, none, [.t 1], .v (.mv)⟩,
       ⟨some 6, none, [.t 5, .c (.pv (.int .i64 0))], .v (.bin .lss)⟩,
       ⟨some 7, none, [.t 6], .v (.mv)⟩,
       ⟨some 8, some (7, false), [.t 1], .v (.mv)⟩,
       ⟨some 9, some (7, false), [.t 0], .v (.mv)⟩,
       ⟨some 10, some (7, false), [.t 9], .v (.len)⟩,
       ⟨some 11, some (7, false), [.t 8, .t 10], .v (.bin .gtr)⟩,
       ⟨some 12, none, [.t 7, .c (.pv (.bool true)), .t 11], .v (.pick)⟩] [0, 1, 12])
     (.cond (.t 12)
      (.reg [⟨some 13, none, [.t 0], .v (.mv)⟩,
        ⟨some 14, none, [.t 13], .v (.len)⟩,
        ⟨some 1, none, [.t 14], .v (.mv)⟩] [0, 1])
      .skip))
    (.seq
     (.reg [⟨some 15, none, [.t 0], .v (.mv)⟩,
       ⟨some 16, none, [.t 1], .v (.mv)⟩,
       ⟨some 17, none, [.t 15, .t 16], .v (.build [.lst [], .int .i64 0, .bool false, .int .i64 0] [(0, 1), (1, 1)])⟩,
       ⟨some 18, none, [.t 17], .boxS 4⟩,
       ⟨some 4, none, [.t 18], .v (.mv)⟩] [4])
     .ret))), none, false⟩

/- (*typedholes/typedholesref5.Reader).Is -/
def g120 : AFunc := ⟨2, 65, [.t 4],
  (.seq
   (.reg [⟨some 4, none, [.c (.pv (.bool false))], .v (.mv)⟩] [0, 1])
   (.seq
    (.reg [⟨some 5, none, [.t 0], .v (.mv)⟩,
      ⟨some 6, none, [.t 5], .v (.nilchk)⟩,
      ⟨some 7, none, [.t 6], .v (.faddr 2)⟩,
      ⟨some 8, none, [.t 7], .loadS 1 false⟩,
      ⟨some 9, none, [.t 8], .v (.un .not)⟩,
      ⟨some 10, none, [.t 9], .v (.mv)⟩,
      ⟨some 11, some (10, true), [.t 0], .v (.mv)⟩,
      ⟨some 12, some (10, true), [.t 11], .v (.nilchk)⟩,
      ⟨some 13, some (10, true), [.t 12], .v (.faddr 1)⟩,
      ⟨some 14, some (10, true), [.t 13], .loadS 1 false⟩,
      ⟨some 15, some (10, true), [.t 0], .v (.mv)⟩,
      ⟨some 16, some (10, true), [.t 15], .v (.nilchk)⟩,
      ⟨some 17, some (10, true), [.t 16], .v (.faddr 0)⟩,
      ⟨some 18, some (10, true), [.t 17], .loadS 1 false⟩,
      ⟨some 19, some (10, true), [.t 18], .v (.len)⟩,
      ⟨some 20, some (10, true), [.t 14, .t 19], .v (.bin .lss)⟩,
      ⟨some 21, none, [.t 10, .t 20, .c (.pv (.bool false))], .v (.pick)⟩,
      ⟨some 22, none, [.t 21], .v (.mv)⟩,
      ⟨some 23, some (22, true), [.t 0], .v (.mv)⟩,
      ⟨some 24, some (22, true), [.t 23], .v (.nilchk)⟩,
      ⟨some 25, some (22, true), [.t 24], .v (.faddr 0)⟩,
      ⟨some 26, some (22, true), [.t 25], .loadS 1 false⟩,
      ⟨some 27, some (22, true), [.t 0], .v (.mv)⟩,
      ⟨some 28, some (22, true), [.t 27], .v (.nilchk)⟩,
      ⟨some 29, some (22, true), [.t 28], .v (.faddr 1)⟩,
      ⟨some 30, some (22, true), [.t 29], .loadS 1 false⟩,
      ⟨some 31, some (22, true), [.t 26, .t 30], .v (.iaddr 3)⟩,
      ⟨some 32, some (22, true), [.t 31], .v (.faddr 0)⟩,
      ⟨some 33, some (22, true), [.t 32], .v (.loadE 1 false)⟩,
      ⟨some 34, some (22, true), [.t 33, .c (.pv (.int .i64 5))], .v (.bin .eql)⟩,
      ⟨some 35, some (22, true), [.t 34], .v (.mv)⟩,
      ⟨some 36, some (35, false), [.t 0], .v (.mv)⟩,
      ⟨some 37, some (35, false), [.t 36], .v (.nilchk)⟩,
      ⟨some 38, some (35, false), [.t 37], .v (.faddr 0)⟩,
      ⟨some 39, some (35, false), [.t 38], .loadS 1 false⟩,
      ⟨some 40, some (35, false), [.t 0], .v (.mv)⟩,
      ⟨some 41, some (35, false), [.t 40], .v (.nilchk)⟩,
      ⟨some 42, some (35, false), [.t 41], .v (.faddr 1)⟩,
      ⟨some 43, some (35, false), [.t 42], .loadS 1 false⟩,
      ⟨some 44, some (35, false), [.t 39, .t 43], .v (.iaddr 3)⟩,
      ⟨some 45, some (35, false), [.t 44], .v (.faddr 0)⟩,
      ⟨some 46, some (35, false), [.t 45], .v (.loadE 1 false)⟩,
      ⟨some 47, some (35, false), [.t 46, .c (.pv (.int .i64 4))], .v (.bin .eql)⟩,
      ⟨some 48, some (22, true), [.t 35, .c (.pv (.bool true)), .t 47], .v (.pick)⟩,
      ⟨some 49, none, [.t 22, .t 48, .c (.pv (.bool false))], .v (.pick)⟩,
      ⟨some 50, none, [.t 49], .v (.mv)⟩,
      ⟨some 51, some (50, true), [.t 0], .v (.mv)⟩,
      ⟨some 52, some (50, true), [.t 51], .v (.nilchk)⟩,
      ⟨some 53, some (50, true), [.t 52], .v (.faddr 0)⟩,
      ⟨some 54, some (50, true), [.t 53], .loadS 1 false⟩,
      ⟨some 55, some (50, true), [.t 0], .v (.mv)⟩,
      ⟨some 56, some (50, true), [.t 55], .v (.nilchk)⟩,
      ⟨some 57, some (50, true), [.t 56], .v (.faddr 1)⟩,
      ⟨some 58, some (50, true), [.t 57], .loadS 1 false⟩,
      ⟨some 59, some (50, true), [.t 54, .t 58], .v (.iaddr 3)⟩,
      ⟨some 60, some (50, true), [.t 59], .v (.faddr 1)⟩,
      ⟨some 61, some (50, true), [.t 60], .v (.loadE 1 false)⟩,
      ⟨some 62, some (50, true), [.t 1], .v (.mv)⟩,
      ⟨some 63, some (50, true), [.t 61, .t 62], .v (.bin .eql)⟩,
      ⟨some 64, none, [.t 50, .t 63, .c (.pv (.bool false))], .v (.pick)⟩,
      ⟨some 4, none, [.t 64], .v (.mv)⟩] [4])
    .ret)), none, false⟩

/- typedholes/typedholesref7.declaration -/
def g121B0 : ACode :=
  (.seq
   (.seq
    (.reg [⟨some 13, none, [.t 0], .v (.mv)⟩,
      ⟨some 14, none, [.t 13, .c (.pv (.int .i64 1))], .callI 129 []⟩] [0, 2, 3, 14])
    (.cond (.t 14)
     .skip
     (.exit 0)))
   (.block 1
    (.reg [⟨some 15, none, [.t 3], .v (.faddr 2)⟩,
      ⟨some 16, none, [.t 15], .loadL 3 2 1 false⟩,
      ⟨some 17, none, [.t 0], .v (.mv)⟩,
      ⟨some 18, none, [.t 17, .c (.pv (.int .i64 1))], .callI 128 []⟩,
      ⟨some 19, none, [.t 18], .v (.bslice 1)⟩,
      ⟨some 20, none, [.t 16, .t 19], .append 1 16⟩,
      ⟨some 21, none, [.t 3], .v (.faddr 2)⟩,
      ⟨none, none, [.t 21, .t 20], .storeL 3 2 1⟩] [0, 2, 3])))
def g121L0 : ACode := .loop [0, 2, 3] g121B0
theorem g121L0_eq {AP : Nat → Option AFunc} {st : St} : cl AP g121L0 st = after (cl AP g121L0) (cl AP g121B0 (norm (restrict [0, 2, 3] st))) := cl_loop
def g121B2 : ACode :=
  (.seq
   (.seq
    (.reg [⟨some 34, none, [.t 0], .v (.mv)⟩,
      ⟨some 35, none, [.t 34], .callI 130 []⟩] [0, 2, 3, 4, 35])
    (.cond (.t 35)
     .skip
     (.exit 4)))
   (.block 5
    (.reg [⟨some 36, none, [.t 4], .v (.faddr 2)⟩,
      ⟨some 37, none, [.t 36], .loadL 4 2 1 false⟩,
      ⟨some 38, none, [.t 0], .v (.mv)⟩,
      ⟨some 39, none, [.t 38], .callI 131 []⟩,
      ⟨some 40, none, [.t 39], .v (.bslice 5)⟩,
      ⟨some 41, none, [.t 37, .t 40], .append 5 64⟩,
      ⟨some 42, none, [.t 4], .v (.faddr 2)⟩,
      ⟨none, none, [.t 42, .t 41], .storeL 4 2 1⟩] [0, 2, 3, 4])))
def g121L2 : ACode := .loop [0, 2, 3, 4] g121B2
theorem g121L2_eq {AP : Nat → Option AFunc} {st : St} : cl AP g121L2 st = after (cl AP g121L2) (cl AP g121B2 (norm (restrict [0, 2, 3, 4] st))) := cl_loop
def g121B1 : ACode :=
  (.seq
   (.seq
    (.reg [⟨some 24, none, [.t 0], .v (.mv)⟩,
      ⟨some 25, none, [.t 24], .v (.nilchk)⟩,
      ⟨some 26, none, [.t 25], .v (.faddr 2)⟩,
      ⟨some 27, none, [.t 26], .loadS 1 false⟩,
      ⟨some 28, none, [.t 27], .v (.un .not)⟩] [0, 2, 3, 28])
    (.cond (.t 28)
     .skip
     (.exit 2)))
   (.block 3
    (.seq
     (.reg [⟨some 29, none, [.t 0], .v (.mv)⟩,
       ⟨some 30, none, [.t 29], .callI 126 []⟩,
       ⟨some 31, none, [.t 0], .v (.mv)⟩,
       ⟨some 32, none, [.t 31, .c (.pv (.int .i64 2))], .callI 128 []⟩,
       ⟨some 33, none, [.t 30, .t 32], .v (.build [.int .i64 0, .str [], .lst []] [(0, 1), (1, 1)])⟩,
       ⟨some 4, none, [], .alloc 4 [.int .i64 0, .str [], .lst []]⟩,
       ⟨none, none, [.t 4, .t 33], .storeL 4 0 3⟩] [0, 2, 3, 4])
     (.seq
      (.block 4
       g121L2)
      (.seq
       (.reg [⟨some 43, none, [.t 3], .v (.faddr 3)⟩,
         ⟨some 44, none, [.t 43], .loadL 3 3 1 false⟩,
         ⟨some 45, none, [.t 4], .loadL 4 0 3 true⟩,
         ⟨some 46, none, [.t 45], .v (.bslice 3)⟩,
         ⟨some 47, none, [.t 44, .t 46], .append 3 48⟩,
         ⟨some 48, none, [.t 3], .v (.faddr 3)⟩,
         ⟨none, none, [.t 48, .t 47], .storeL 3 3 1⟩] [0, 2, 3])
       (.seq
        (.reg [⟨some 49, none, [.t 0], .v (.mv)⟩,
          ⟨some 50, none, [.t 49, .c (.pv (.str [124]))], .callI 132 []⟩,
          ⟨some 51, none, [.t 50], .v (.un .not)⟩] [0, 2, 3, 51])
        (.cond (.t 51)
         (.exit 2)
         .skip)))))))
def g121L1 : ACode := .loop [0, 2, 3] g121B1
theorem g121L1_eq {AP : Nat → Option AFunc} {st : St} : cl AP g121L1 st = after (cl AP g121L1) (cl AP g121B1 (norm (restrict [0, 2, 3] st))) := cl_loop
def g121 : AFunc := ⟨1, 55, [.c 2 4 true],
  (.seq
   (.reg [⟨some 2, none, [], .alloc 2 [.int .i64 0, .str [], .lst [], .lst []]⟩] [0, 2])
   (.seq
    (.reg [⟨some 5, none, [.t 0], .v (.mv)⟩,
      ⟨some 6, none, [.t 5], .callI 126 []⟩,
      ⟨some 7, none, [.t 6], .v (.build [.int .i64 0, .str [], .lst [], .lst []] [(0, 1)])⟩,
      ⟨some 3, none, [], .alloc 3 [.int .i64 0, .str [], .lst [], .lst []]⟩,
      ⟨none, none, [.t 3, .t 7], .storeL 3 0 4⟩] [0, 2, 3])
    (.seq
     (.reg [⟨some 8, none, [.t 0], .v (.mv)⟩,
       ⟨some 9, none, [.t 8, .c (.pv (.str [100, 97, 116, 97]))], .callI 127 []⟩] [0, 2, 3])
     (.seq
      (.reg [⟨some 10, none, [.t 0], .v (.mv)⟩,
        ⟨some 11, none, [.t 10, .c (.pv (.int .i64 2))], .callI 128 []⟩,
        ⟨some 12, none, [.t 3], .v (.faddr 1)⟩,
        ⟨none, none, [.t 12, .t 11], .storeL 3 1 1⟩] [0, 2, 3])
      (.seq
       (.block 0
        g121L0)
       (.seq
        (.reg [⟨some 22, none, [.t 0], .v (.mv)⟩,
          ⟨some 23, none, [.t 22, .c (.pv (.str [61]))], .callI 127 []⟩] [0, 2, 3])
        (.seq
         (.block 2
          g121L1)
         (.seq
          (.reg [⟨some 52, none, [.t 0], .v (.mv)⟩,
            ⟨some 53, none, [.t 52, .c (.pv (.str [59]))], .callI 127 []⟩] [2, 3])
          (.seq
           (.reg [⟨some 54, none, [.t 3], .loadL 3 0 4 true⟩,
             ⟨none, none, [.t 2, .t 54], .storeL 2 0 4⟩] [2])
           .ret))))))))), none, false⟩

/- typedholes/typedholesref7.binding -/
def g122 : AFunc := ⟨1, 34, [.c 2 20 true],
  (.seq
   (.reg [⟨some 2, none, [], .alloc 2 [.int .i64 0, .bool false, .str [], .bool false, .int .i64 0, .str [], .int .i64 0, .int .i64 0, .lst [], .int .i64 0, .int .i64 0, .str [], .int .i64 0, .lst [], .lst [], .int .i64 0, .str [], .int .i64 0, .int .i64 0, .lst []]⟩] [0, 2])
   (.seq
    (.reg [⟨some 4, none, [.t 0], .v (.mv)⟩,
      ⟨some 5, none, [.t 4], .callI 126 []⟩,
      ⟨some 6, none, [.t 5], .v (.build [.int .i64 0, .bool false, .str [], .bool false, .int .i64 0, .str [], .int .i64 0, .int .i64 0, .lst [], .int .i64 0, .int .i64 0, .str [], .int .i64 0, .lst [], .lst [], .int .i64 0, .str [], .int .i64 0, .int .i64 0, .lst []] [(0, 1)])⟩,
      ⟨some 3, none, [], .alloc 3 [.int .i64 0, .bool false, .str [], .bool false, .int .i64 0, .str [], .int .i64 0, .int .i64 0, .lst [], .int .i64 0, .int .i64 0, .str [], .int .i64 0, .lst [], .lst [], .int .i64 0, .str [], .int .i64 0, .int .i64 0, .lst []]⟩,
      ⟨none, none, [.t 3, .t 6], .storeL 3 0 20⟩] [0, 2, 3])
    (.seq
     (.reg [⟨some 7, none, [.t 0], .v (.mv)⟩,
       ⟨some 8, none, [.t 7, .c (.pv (.str [108, 101, 116]))], .callI 127 []⟩] [0, 2, 3])
     (.seq
      (.reg [⟨some 9, none, [.t 0], .v (.mv)⟩,
        ⟨some 10, none, [.t 9, .c (.pv (.str [114, 101, 99]))], .callI 132 []⟩,
        ⟨some 11, none, [.t 3], .v (.faddr 1)⟩,
        ⟨none, none, [.t 11, .t 10], .storeL 3 1 1⟩] [0, 2, 3])
      (.seq
       (.reg [⟨some 12, none, [.t 0], .v (.mv)⟩,
         ⟨some 13, none, [.t 12, .c (.pv (.int .i64 1))], .callI 128 []⟩,
         ⟨some 14, none, [.t 3], .v (.faddr 2)⟩,
         ⟨none, none, [.t 14, .t 13], .storeL 3 2 1⟩] [0, 2, 3])
       (.seq
        (.seq
         (.reg [⟨some 15, none, [.t 0], .v (.mv)⟩,
           ⟨some 16, none, [.t 15, .c (.pv (.str [58]))], .callI 132 []⟩] [0, 2, 3, 16])
         (.cond (.t 16)
          (.seq
           (.reg [⟨some 17, none, [.t 3], .v (.faddr 3)⟩,
             ⟨none, none, [.t 17, .c (.pv (.bool true))], .storeL 3 3 1⟩] [0, 2, 3])
           (.reg [⟨some 18, none, [.t 0], .v (.mv)⟩,
             ⟨some 19, none, [.t 18], .callI 133 []⟩,
             ⟨some 20, none, [.t 3], .v (.faddr 4)⟩,
             ⟨none, none, [.t 20, .t 19], .storeL 3 4 5⟩] [0, 2, 3]))
          .skip))
        (.seq
         (.reg [⟨some 21, none, [.t 0], .v (.mv)⟩,
           ⟨some 22, none, [.t 21, .c (.pv (.str [61]))], .callI 127 []⟩] [0, 2, 3])
         (.seq
          (.seq
           (.reg [⟨some 23, none, [.t 0], .v (.mv)⟩,
             ⟨some 24, none, [.t 23], .v (.nilchk)⟩,
             ⟨some 25, none, [.t 24], .v (.faddr 2)⟩,
             ⟨some 26, none, [.t 25], .loadS 1 false⟩,
             ⟨some 27, none, [.t 26], .v (.un .not)⟩] [0, 2, 3, 27])
           (.cond (.t 27)
            (.reg [⟨some 28, none, [.t 0], .v (.mv)⟩,
              ⟨some 29, none, [.t 28], .callI 134 []⟩,
              ⟨some 30, none, [.t 3], .v (.faddr 9)⟩,
              ⟨none, none, [.t 30, .t 29], .storeL 3 9 11⟩] [0, 2, 3])
            .skip))
          (.seq
           (.reg [⟨some 31, none, [.t 0], .v (.mv)⟩,
             ⟨some 32, none, [.t 31, .c (.pv (.str [59]))], .callI 127 []⟩] [2, 3])
           (.seq
            (.reg [⟨some 33, none, [.t 3], .loadL 3 0 20 true⟩,
              ⟨none, none, [.t 2, .t 33], .storeL 2 0 20⟩] [2])
            .ret)))))))))), none, false⟩

/- typedholes/typedholesref7.Deep -/
def g123B1 : ACode :=
  (.seq
   (.seq
    (.reg [⟨some 43, none, [.t 5], .v (.mv)⟩,
      ⟨some 44, none, [.t 4], .v (.faddr 3)⟩,
      ⟨some 45, none, [.t 44], .loadL 4 3 1 false⟩,
      ⟨some 46, none, [.t 45], .v (.len)⟩,
      ⟨some 47, none, [.t 43, .t 46], .v (.bin .lss)⟩] [1, 2, 3, 4, 5, 47])
    (.cond (.t 47)
     .skip
     (.exit 2)))
   (.seq
    (.block 3
     (.seq
      (.reg [⟨some 50, none, [.t 4], .v (.faddr 3)⟩,
        ⟨some 51, none, [.t 50], .loadL 4 3 1 false⟩,
        ⟨some 52, none, [.t 5], .v (.mv)⟩,
        ⟨some 53, none, [.t 51, .t 52], .v (.iaddr 3)⟩,
        ⟨some 54, none, [.t 53], .v (.faddr 2)⟩,
        ⟨some 55, none, [.t 54], .v (.loadE 1 false)⟩,
        ⟨some 56, none, [.t 55], .v (.len)⟩,
        ⟨some 57, none, [.t 56, .c (.pv (.int .i64 4))], .v (.bin .gtr)⟩] [1, 2, 3, 4, 5, 57])
      (.cond (.t 57)
       (.seq
        (.reg [⟨some 58, none, [.t 4], .v (.faddr 3)⟩,
          ⟨some 59, none, [.t 58], .loadL 4 3 1 false⟩,
          ⟨some 60, none, [.t 5], .v (.mv)⟩,
          ⟨some 61, none, [.t 59, .t 60], .v (.iaddr 3)⟩,
          ⟨some 62, none, [.t 61], .v (.faddr 0)⟩,
          ⟨some 63, none, [.t 62], .v (.loadE 1 false)⟩,
          ⟨some 64, none, [.c (.pv (.int .i64 5)), .t 63], .v (.build [.int .i64 0, .int .i64 0] [(0, 1), (1, 1)])⟩,
          ⟨none, none, [.t 2, .t 64], .storeL 2 0 2⟩] [2])
        .ret)
       .skip)))
    (.reg [⟨some 48, none, [.t 5], .v (.mv)⟩,
      ⟨some 49, none, [.t 48, .c (.pv (.int .i64 1))], .v (.bin .add)⟩,
      ⟨some 5, none, [.t 49], .v (.mv)⟩] [1, 2, 3, 4, 5])))
def g123L1 : ACode := .loop [1, 2, 3, 4, 5] g123B1
theorem g123L1_eq {AP : Nat → Option AFunc} {st : St} : cl AP g123L1 st = after (cl AP g123L1) (cl AP g123B1 (norm (restrict [1, 2, 3, 4, 5] st))) := cl_loop
def g123B0 : ACode :=
  (.seq
   (.seq
    (.reg [⟨some 14, none, [.t 3], .v (.mv)⟩,
      ⟨some 15, none, [.t 1], .v (.faddr 0)⟩,
      ⟨some 16, none, [.t 15], .loadL 1 0 1 false⟩,
      ⟨some 17, none, [.t 16], .v (.len)⟩,
      ⟨some 18, none, [.t 14, .t 17], .v (.bin .lss)⟩] [1, 2, 3, 18])
    (.cond (.t 18)
     .skip
     (.exit 0)))
   (.seq
    (.block 1
     (.seq
      (.reg [⟨some 21, none, [.t 1], .v (.faddr 0)⟩,
        ⟨some 22, none, [.t 21], .loadL 1 0 1 false⟩,
        ⟨some 23, none, [.t 3], .v (.mv)⟩,
        ⟨some 24, none, [.t 22, .t 23], .v (.iaddr 4)⟩,
        ⟨some 25, none, [.t 24], .v (.loadE 4 true)⟩,
        ⟨some 4, none, [], .alloc 4 [.int .i64 0, .str [], .lst [], .lst []]⟩,
        ⟨none, none, [.t 4, .t 25], .storeL 4 0 4⟩] [1, 2, 3, 4])
      (.seq
       (.seq
        (.reg [⟨some 26, none, [.t 3], .v (.mv)⟩,
          ⟨some 27, none, [.t 26, .c (.pv (.int .i64 8))], .v (.bin .geq)⟩,
          ⟨some 28, none, [.t 27], .v (.mv)⟩,
          ⟨some 29, some (28, false), [.t 4], .v (.faddr 2)⟩,
          ⟨some 30, some (28, false), [.t 29], .loadL 4 2 1 false⟩,
          ⟨some 31, some (28, false), [.t 30], .v (.len)⟩,
          ⟨some 32, some (28, false), [.t 31, .c (.pv (.int .i64 4))], .v (.bin .gtr)⟩,
          ⟨some 33, none, [.t 28, .c (.pv (.bool true)), .t 32], .v (.pick)⟩,
          ⟨some 34, none, [.t 33], .v (.mv)⟩,
          ⟨some 35, some (34, false), [.t 4], .v (.faddr 3)⟩,
          ⟨some 36, some (34, false), [.t 35], .loadL 4 3 1 false⟩,
          ⟨some 37, some (34, false), [.t 36], .v (.len)⟩,
          ⟨some 38, some (34, false), [.t 37, .c (.pv (.int .i64 6))], .v (.bin .gtr)⟩,
          ⟨some 39, none, [.t 34, .c (.pv (.bool true)), .t 38], .v (.pick)⟩] [1, 2, 3, 4, 39])
        (.cond (.t 39)
         (.seq
          (.reg [⟨some 40, none, [.t 4], .v (.faddr 0)⟩,
            ⟨some 41, none, [.t 40], .loadL 4 0 1 false⟩,
            ⟨some 42, none, [.c (.pv (.int .i64 5)), .t 41], .v (.build [.int .i64 0, .int .i64 0] [(0, 1), (1, 1)])⟩,
            ⟨none, none, [.t 2, .t 42], .storeL 2 0 2⟩] [2])
          .ret)
         .skip))
       (.seq
        (.reg [⟨some 5, none, [.c (.pv (.int .i64 0))], .v (.mv)⟩] [1, 2, 3, 4, 5])
        (.block 2
         g123L1)))))
    (.reg [⟨some 19, none, [.t 3], .v (.mv)⟩,
      ⟨some 20, none, [.t 19, .c (.pv (.int .i64 1))], .v (.bin .add)⟩,
      ⟨some 3, none, [.t 20], .v (.mv)⟩] [1, 2, 3])))
def g123L0 : ACode := .loop [1, 2, 3] g123B0
theorem g123L0_eq {AP : Nat → Option AFunc} {st : St} : cl AP g123L0 st = after (cl AP g123L0) (cl AP g123B0 (norm (restrict [1, 2, 3] st))) := cl_loop
def g123B4 : ACode :=
  (.seq
   (.seq
    (.reg [⟨some 94, none, [.t 9], .v (.mv)⟩,
      ⟨some 95, none, [.t 7], .v (.faddr 3)⟩,
      ⟨some 96, none, [.t 95], .loadL 7 3 1 false⟩,
      ⟨some 97, none, [.t 8], .v (.mv)⟩,
      ⟨some 98, none, [.t 96, .t 97], .v (.iaddr 3)⟩,
      ⟨some 99, none, [.t 98], .v (.faddr 2)⟩,
      ⟨some 100, none, [.t 99], .v (.loadE 1 false)⟩,
      ⟨some 101, none, [.t 100], .v (.len)⟩,
      ⟨some 102, none, [.t 94, .t 101], .v (.bin .lss)⟩] [1, 2, 6, 7, 8, 9, 102])
    (.cond (.t 102)
     .skip
     (.exit 8)))
   (.seq
    (.block 9
     (.seq
      (.reg [⟨some 105, none, [.t 7], .v (.faddr 3)⟩,
        ⟨some 106, none, [.t 105], .loadL 7 3 1 false⟩,
        ⟨some 107, none, [.t 8], .v (.mv)⟩,
        ⟨some 108, none, [.t 106, .t 107], .v (.iaddr 3)⟩,
        ⟨some 109, none, [.t 108], .v (.faddr 2)⟩,
        ⟨some 110, none, [.t 109], .v (.loadE 1 false)⟩,
        ⟨some 111, none, [.t 9], .v (.mv)⟩,
        ⟨some 112, none, [.t 110, .t 111], .v (.iaddr 5)⟩,
        ⟨some 113, none, [.t 112], .v (.loadE 5 true)⟩,
        ⟨some 114, none, [.t 113], .callP 52⟩,
        ⟨some 115, none, [.t 114, .c (.pv (.int .i64 40))], .v (.bin .gtr)⟩] [1, 2, 6, 7, 8, 9, 115])
      (.cond (.t 115)
       (.seq
        (.reg [⟨some 116, none, [.t 7], .v (.faddr 0)⟩,
          ⟨some 117, none, [.t 116], .loadL 7 0 1 false⟩,
          ⟨some 118, none, [.c (.pv (.int .i64 4)), .t 117], .v (.build [.int .i64 0, .int .i64 0] [(0, 1), (1, 1)])⟩,
          ⟨none, none, [.t 2, .t 118], .storeL 2 0 2⟩] [2])
        .ret)
       .skip)))
    (.reg [⟨some 103, none, [.t 9], .v (.mv)⟩,
      ⟨some 104, none, [.t 103, .c (.pv (.int .i64 1))], .v (.bin .add)⟩,
      ⟨some 9, none, [.t 104], .v (.mv)⟩] [1, 2, 6, 7, 8, 9])))
def g123L4 : ACode := .loop [1, 2, 6, 7, 8, 9] g123B4
theorem g123L4_eq {AP : Nat → Option AFunc} {st : St} : cl AP g123L4 st = after (cl AP g123L4) (cl AP g123B4 (norm (restrict [1, 2, 6, 7, 8, 9] st))) := cl_loop
def g123B3 : ACode :=
  (.seq
   (.seq
    (.reg [⟨some 87, none, [.t 8], .v (.mv)⟩,
      ⟨some 88, none, [.t 7], .v (.faddr 3)⟩,
      ⟨some 89, none, [.t 88], .loadL 7 3 1 false⟩,
      ⟨some 90, none, [.t 89], .v (.len)⟩,
      ⟨some 91, none, [.t 87, .t 90], .v (.bin .lss)⟩] [1, 2, 6, 7, 8, 91])
    (.cond (.t 91)
     .skip
     (.exit 6)))
   (.seq
    (.block 7
     (.seq
      (.reg [⟨some 9, none, [.c (.pv (.int .i64 0))], .v (.mv)⟩] [1, 2, 6, 7, 8, 9])
      (.block 8
       g123L4)))
    (.reg [⟨some 92, none, [.t 8], .v (.mv)⟩,
      ⟨some 93, none, [.t 92, .c (.pv (.int .i64 1))], .v (.bin .add)⟩,
      ⟨some 8, none, [.t 93], .v (.mv)⟩] [1, 2, 6, 7, 8])))
def g123L3 : ACode := .loop [1, 2, 6, 7, 8] g123B3
theorem g123L3_eq {AP : Nat → Option AFunc} {st : St} : cl AP g123L3 st = after (cl AP g123L3) (cl AP g123B3 (norm (restrict [1, 2, 6, 7, 8] st))) := cl_loop
def g123B2 : ACode :=
  (.seq
   (.seq
    (.reg [⟨some 75, none, [.t 6], .v (.mv)⟩,
      ⟨some 76, none, [.t 1], .v (.faddr 0)⟩,
      ⟨some 77, none, [.t 76], .loadL 1 0 1 false⟩,
      ⟨some 78, none, [.t 77], .v (.len)⟩,
      ⟨some 79, none, [.t 75, .t 78], .v (.bin .lss)⟩] [1, 2, 6, 79])
    (.cond (.t 79)
     .skip
     (.exit 4)))
   (.seq
    (.block 5
     (.seq
      (.reg [⟨some 82, none, [.t 1], .v (.faddr 0)⟩,
        ⟨some 83, none, [.t 82], .loadL 1 0 1 false⟩,
        ⟨some 84, none, [.t 6], .v (.mv)⟩,
        ⟨some 85, none, [.t 83, .t 84], .v (.iaddr 4)⟩,
        ⟨some 86, none, [.t 85], .v (.loadE 4 true)⟩,
        ⟨some 7, none, [], .alloc 7 [.int .i64 0, .str [], .lst [], .lst []]⟩,
        ⟨none, none, [.t 7, .t 86], .storeL 7 0 4⟩] [1, 2, 6, 7])
      (.seq
       (.reg [⟨some 8, none, [.c (.pv (.int .i64 0))], .v (.mv)⟩] [1, 2, 6, 7, 8])
       (.block 6
        g123L3))))
    (.reg [⟨some 80, none, [.t 6], .v (.mv)⟩,
      ⟨some 81, none, [.t 80, .c (.pv (.int .i64 1))], .v (.bin .add)⟩,
      ⟨some 6, none, [.t 81], .v (.mv)⟩] [1, 2, 6])))
def g123L2 : ACode := .loop [1, 2, 6] g123B2
theorem g123L2_eq {AP : Nat → Option AFunc} {st : St} : cl AP g123L2 st = after (cl AP g123L2) (cl AP g123B2 (norm (restrict [1, 2, 6] st))) := cl_loop
def g123B5 : ACode :=
  (.seq
   (.seq
    (.reg [⟨some 119, none, [.t 10], .v (.mv)⟩,
      ⟨some 120, none, [.t 1], .v (.faddr 1)⟩,
      ⟨some 121, none, [.t 120], .loadL 1 1 1 false⟩,
      ⟨some 122, none, [.t 121], .v (.len)⟩,
      ⟨some 123, none, [.t 119, .t 122], .v (.bin .lss)⟩] [1, 2, 10, 123])
    (.cond (.t 123)
     .skip
     (.exit 10)))
   (.seq
    (.block 11
     (.seq
      (.reg [⟨some 126, none, [.t 1], .v (.faddr 1)⟩,
        ⟨some 127, none, [.t 126], .loadL 1 1 1 false⟩,
        ⟨some 128, none, [.t 10], .v (.mv)⟩,
        ⟨some 129, none, [.t 127, .t 128], .v (.iaddr 20)⟩,
        ⟨some 130, none, [.t 129], .v (.loadE 20 true)⟩,
        ⟨some 11, none, [], .alloc 11 [.int .i64 0, .bool false, .str [], .bool false, .int .i64 0, .str [], .int .i64 0, .int .i64 0, .lst [], .int .i64 0, .int .i64 0, .str [], .int .i64 0, .lst [], .lst [], .int .i64 0, .str [], .int .i64 0, .int .i64 0, .lst []]⟩,
        ⟨none, none, [.t 11, .t 130], .storeL 11 0 20⟩] [1, 2, 10, 11])
      (.seq
       (.seq
        (.reg [⟨some 131, none, [.t 11], .v (.faddr 3)⟩,
          ⟨some 132, none, [.t 131], .loadL 11 3 1 false⟩,
          ⟨some 133, none, [.t 132], .v (.mv)⟩,
          ⟨some 134, some (133, true), [.t 11], .v (.faddr 4)⟩,
          ⟨some 135, some (133, true), [.t 134], .loadL 11 4 5 true⟩,
          ⟨some 136, some (133, true), [.t 135], .callP 52⟩,
          ⟨some 137, some (133, true), [.t 136, .c (.pv (.int .i64 40))], .v (.bin .gtr)⟩,
          ⟨some 138, none, [.t 133, .t 137, .c (.pv (.bool false))], .v (.pick)⟩,
          ⟨some 139, none, [.t 138], .v (.mv)⟩,
          ⟨some 140, some (139, false), [.t 11], .v (.faddr 9)⟩,
          ⟨some 141, some (139, false), [.t 140], .loadL 11 9 11 true⟩,
          ⟨some 142, some (139, false), [.t 141], .callP 135⟩,
          ⟨some 143, none, [.t 139, .c (.pv (.bool true)), .t 142], .v (.pick)⟩] [1, 2, 10, 11, 143])
        (.cond (.t 143)
         (.seq
          (.reg [⟨some 144, none, [.t 11], .v (.faddr 0)⟩,
            ⟨some 145, none, [.t 144], .loadL 11 0 1 false⟩,
            ⟨some 146, none, [.c (.pv (.int .i64 4)), .t 145], .v (.build [.int .i64 0, .int .i64 0] [(0, 1), (1, 1)])⟩,
            ⟨none, none, [.t 2, .t 146], .storeL 2 0 2⟩] [2])
          .ret)
         .skip))
       (.seq
        (.reg [⟨some 148, none, [.t 11], .v (.faddr 9)⟩,
          ⟨some 149, none, [.t 148], .loadL 11 9 11 true⟩,
          ⟨some 150, none, [.t 149], .callP 136⟩,
          ⟨some 147, none, [.t 150], .v (.mv)⟩,
          ⟨some 151, none, [.t 147], .v (.ext 0)⟩,
          ⟨some 152, none, [.t 147], .v (.ext 1)⟩,
          ⟨some 12, none, [.t 151], .v (.mv)⟩,
          ⟨some 13, none, [.t 152], .v (.mv)⟩] [1, 2, 10, 12, 13])
        (.seq
         (.reg [⟨some 153, none, [.t 13], .v (.mv)⟩] [1, 2, 10, 12, 153])
         (.cond (.t 153)
          (.seq
           (.reg [⟨some 154, none, [.t 12], .v (.mv)⟩,
             ⟨some 155, none, [.c (.pv (.int .i64 5)), .t 154], .v (.build [.int .i64 0, .int .i64 0] [(0, 1), (1, 1)])⟩,
             ⟨none, none, [.t 2, .t 155], .storeL 2 0 2⟩] [2])
           .ret)
          .skip))))))
    (.reg [⟨some 124, none, [.t 10], .v (.mv)⟩,
      ⟨some 125, none, [.t 124, .c (.pv (.int .i64 1))], .v (.bin .add)⟩,
      ⟨some 10, none, [.t 125], .v (.mv)⟩] [1, 2, 10])))
def g123L5 : ACode := .loop [1, 2, 10] g123B5
theorem g123L5_eq {AP : Nat → Option AFunc} {st : St} : cl AP g123L5 st = after (cl AP g123L5) (cl AP g123B5 (norm (restrict [1, 2, 10] st))) := cl_loop
def g123 : AFunc := ⟨1, 157, [.c 2 2 true],
  (.seq
   (.reg [⟨some 1, none, [.t 0], .box 1 2⟩,
     ⟨some 2, none, [], .alloc 2 [.int .i64 0, .int .i64 0]⟩] [1, 2])
   (.seq
    (.seq
     (.reg [⟨some 3, none, [.c (.pv (.int .i64 0))], .v (.mv)⟩] [1, 2, 3])
     (.block 0
      g123L0))
    (.seq
     (.seq
      (.reg [⟨some 65, none, [.t 1], .v (.faddr 1)⟩,
        ⟨some 66, none, [.t 65], .loadL 1 1 1 false⟩,
        ⟨some 67, none, [.t 66], .v (.len)⟩,
        ⟨some 68, none, [.t 67, .c (.pv (.int .i64 16))], .v (.bin .gtr)⟩] [1, 2, 68])
      (.cond (.t 68)
       (.seq
        (.reg [⟨some 69, none, [.t 1], .v (.faddr 1)⟩,
          ⟨some 70, none, [.t 69], .loadL 1 1 1 false⟩,
          ⟨some 71, none, [.t 70, .c (.pv (.int .i64 16))], .v (.iaddr 20)⟩,
          ⟨some 72, none, [.t 71], .v (.faddr 0)⟩,
          ⟨some 73, none, [.t 72], .v (.loadE 1 false)⟩,
          ⟨some 74, none, [.c (.pv (.int .i64 5)), .t 73], .v (.build [.int .i64 0, .int .i64 0] [(0, 1), (1, 1)])⟩,
          ⟨none, none, [.t 2, .t 74], .storeL 2 0 2⟩] [2])
        .ret)
       .skip))
     (.seq
      (.seq
       (.reg [⟨some 6, none, [.c (.pv (.int .i64 0))], .v (.mv)⟩] [1, 2, 6])
       (.block 4
        g123L2))
      (.seq
       (.seq
        (.reg [⟨some 10, none, [.c (.pv (.int .i64 0))], .v (.mv)⟩] [1, 2, 10])
        (.block 10
         g123L5))
       (.seq
        (.reg [⟨some 156, none, [], .v (.build [.int .i64 0, .int .i64 0] [])⟩,
          ⟨none, none, [.t 2, .t 156], .storeL 2 0 2⟩] [2])
        .ret)))))), none, false⟩

/- typedholes/typedholesref2.digit -/
def g124 : AFunc := ⟨1, 9, [.t 2],
  (.seq
   (.reg [⟨some 2, none, [.c (.pv (.bool false))], .v (.mv)⟩] [0])
   (.seq
    (.reg [⟨some 3, none, [.t 0], .v (.mv)⟩,
      ⟨some 4, none, [.t 3, .c (.pv (.int .u8 48))], .v (.bin .geq)⟩,
      ⟨some 5, none, [.t 4], .v (.mv)⟩,
      ⟨some 6, some (5, true), [.t 0], .v (.mv)⟩,
      ⟨some 7, some (5, true), [.t 6, .c (.pv (.int .u8 57))], .v (.bin .leq)⟩,
      ⟨some 8, none, [.t 5, .t 7, .c (.pv (.bool false))], .v (.pick)⟩,
      ⟨some 2, none, [.t 8], .v (.mv)⟩] [2])
    .ret)), none, false⟩

/- typedholes/typedholesref2.Kind -/
def g125 : AFunc := ⟨1, 18, [.t 2],
  (.seq
   (.reg [⟨some 2, none, [.c (.pv (.int .i64 0))], .v (.mv)⟩] [0])
   (.seq
    (.block 0
     (.seq
      (.reg [⟨some 4, none, [.t 0], .v (.mv)⟩,
        ⟨some 5, none, [.t 4], .callP 110⟩,
        ⟨some 3, none, [.t 5], .v (.mv)⟩] [0, 3])
      (.cond (.t 3)
       (.seq
        (.reg [⟨some 2, none, [.c (.pv (.int .i64 4))], .v (.mv)⟩] [2])
        .ret)
       (.seq
        (.reg [⟨some 7, none, [.t 0], .v (.mv)⟩,
          ⟨some 8, none, [.t 7], .callP 77⟩,
          ⟨some 6, none, [.t 8], .v (.mv)⟩] [0, 6])
        (.cond (.t 6)
         (.seq
          (.reg [⟨some 2, none, [.c (.pv (.int .i64 1))], .v (.mv)⟩] [2])
          .ret)
         (.seq
          (.reg [⟨some 10, none, [.t 0], .v (.mv)⟩,
            ⟨some 11, none, [.t 10], .callP 78⟩,
            ⟨some 9, none, [.t 11], .v (.mv)⟩] [0, 9])
          (.cond (.t 9)
           (.seq
            (.reg [⟨some 2, none, [.c (.pv (.int .i64 2))], .v (.mv)⟩] [2])
            .ret)
           (.seq
            (.reg [⟨some 13, none, [.t 0], .v (.mv)⟩,
              ⟨some 14, none, [.t 13], .callP 137⟩,
              ⟨some 12, none, [.t 14], .v (.mv)⟩] [0, 12])
            (.cond (.t 12)
             (.seq
              (.reg [⟨some 2, none, [.c (.pv (.int .i64 3))], .v (.mv)⟩] [2])
              .ret)
             (.seq
              (.reg [⟨some 16, none, [.t 0], .v (.mv)⟩,
                ⟨some 17, none, [.t 16], .callP 138⟩,
                ⟨some 15, none, [.t 17], .v (.mv)⟩] [15])
              (.cond (.t 15)
               (.seq
                (.reg [⟨some 2, none, [.c (.pv (.int .i64 5))], .v (.mv)⟩] [2])
                .ret)
               .skip)))))))))))
    (.seq
     (.reg [⟨some 2, none, [.c (.pv (.int .i64 0))], .v (.mv)⟩] [2])
     .ret))), none, false⟩

/- (*typedholes/typedholesref5.Reader).Pos -/
def g126 : AFunc := ⟨1, 24, [.t 2],
  (.seq
   (.reg [⟨some 2, none, [.c (.pv (.int .i64 0))], .v (.mv)⟩] [0])
   (.seq
    (.seq
     (.reg [⟨some 3, none, [.t 0], .v (.mv)⟩,
       ⟨some 4, none, [.t 3], .v (.nilchk)⟩,
       ⟨some 5, none, [.t 4], .v (.faddr 1)⟩,
       ⟨some 6, none, [.t 5], .loadS 1 false⟩,
       ⟨some 7, none, [.t 0], .v (.mv)⟩,
       ⟨some 8, none, [.t 7], .v (.nilchk)⟩,
       ⟨some 9, none, [.t 8], .v (.faddr 0)⟩,
       ⟨some 10, none, [.t 9], .loadS 1 false⟩,
       ⟨some 11, none, [.t 10], .v (.len)⟩,
       ⟨some 12, none, [.t 6, .t 11], .v (.bin .lss)⟩] [0, 12])
     (.cond (.t 12)
      (.seq
       (.reg [⟨some 13, none, [.t 0], .v (.mv)⟩,
         ⟨some 14, none, [.t 13], .v (.nilchk)⟩,
         ⟨some 15, none, [.t 14], .v (.faddr 0)⟩,
         ⟨some 16, none, [.t 15], .loadS 1 false⟩,
         ⟨some 17, none, [.t 0], .v (.mv)⟩,
         ⟨some 18, none, [.t 17], .v (.nilchk)⟩,
         ⟨some 19, none, [.t 18], .v (.faddr 1)⟩,
         ⟨some 20, none, [.t 19], .loadS 1 false⟩,
         ⟨some 21, none, [.t 16, .t 20], .v (.iaddr 3)⟩,
         ⟨some 22, none, [.t 21], .v (.faddr 2)⟩,
         ⟨some 23, none, [.t 22], .v (.loadE 1 false)⟩,
         ⟨some 2, none, [.t 23], .v (.mv)⟩] [2])
       .ret)
      .skip))
    (.seq
     (.reg [⟨some 2, none, [.c (.pv (.int .i64 0))], .v (.mv)⟩] [2])
     .ret))), none, false⟩

/- (*typedholes/typedholesref5.Reader).Need -/
def g127 : AFunc := ⟨2, 10, [],
  (.seq
   (.reg [⟨some 4, none, [.t 0], .v (.mv)⟩,
     ⟨some 5, none, [.t 1], .v (.mv)⟩,
     ⟨some 6, none, [.t 4, .t 5], .callI 132 []⟩,
     ⟨some 7, none, [.t 6], .v (.un .not)⟩] [0, 7])
   (.cond (.t 7)
    (.reg [⟨some 8, none, [.t 0], .v (.mv)⟩,
      ⟨some 9, none, [.t 8], .callI 139 []⟩] [])
    .skip)), none, false⟩

/- (*typedholes/typedholesref5.Reader).Word -/
def g128 : AFunc := ⟨2, 30, [.t 4],
  (.seq
   (.reg [⟨some 4, none, [.c (.pv (.str []))], .v (.mv)⟩] [0, 1])
   (.seq
    (.seq
     (.reg [⟨some 5, none, [.t 0], .v (.mv)⟩,
       ⟨some 6, none, [.t 1], .v (.mv)⟩,
       ⟨some 7, none, [.t 5, .t 6], .callI 129 []⟩,
       ⟨some 8, none, [.t 7], .v (.un .not)⟩] [0, 8])
     (.cond (.t 8)
      (.seq
       (.reg [⟨some 9, none, [.t 0], .v (.mv)⟩,
         ⟨some 10, none, [.t 9], .callI 139 []⟩] [])
       (.seq
        (.reg [⟨some 4, none, [.c (.pv (.str []))], .v (.mv)⟩] [4])
        .ret))
      .skip))
    (.seq
     (.reg [⟨some 11, none, [.t 0], .v (.mv)⟩,
       ⟨some 12, none, [.t 11], .v (.nilchk)⟩,
       ⟨some 13, none, [.t 12], .v (.faddr 1)⟩,
       ⟨some 14, none, [.t 13], .loadS 1 false⟩,
       ⟨some 15, none, [.t 14, .c (.pv (.int .i64 1))], .v (.bin .add)⟩,
       ⟨some 16, none, [.t 11], .v (.nilchk)⟩,
       ⟨some 17, none, [.t 16], .v (.faddr 1)⟩,
       ⟨none, none, [.t 17, .t 15], .storeS 1⟩] [0])
     (.seq
      (.reg [⟨some 18, none, [.t 0], .v (.mv)⟩,
        ⟨some 19, none, [.t 18], .v (.nilchk)⟩,
        ⟨some 20, none, [.t 19], .v (.faddr 0)⟩,
        ⟨some 21, none, [.t 20], .loadS 1 false⟩,
        ⟨some 22, none, [.t 0], .v (.mv)⟩,
        ⟨some 23, none, [.t 22], .v (.nilchk)⟩,
        ⟨some 24, none, [.t 23], .v (.faddr 1)⟩,
        ⟨some 25, none, [.t 24], .loadS 1 false⟩,
        ⟨some 26, none, [.t 25, .c (.pv (.int .i64 1))], .v (.bin .sub)⟩,
        ⟨some 27, none, [.t 21, .t 26], .v (.iaddr 3)⟩,
        ⟨some 28, none, [.t 27], .v (.faddr 1)⟩,
        ⟨some 29, none, [.t 28], .v (.loadE 1 false)⟩,
        ⟨some 4, none, [.t 29], .v (.mv)⟩] [4])
      .ret)))), none, false⟩

/- (*typedholes/typedholesref5.Reader).Kind -/
def g129 : AFunc := ⟨2, 37, [.t 4],
  (.seq
   (.reg [⟨some 4, none, [.c (.pv (.bool false))], .v (.mv)⟩] [0, 1])
   (.seq
    (.reg [⟨some 5, none, [.t 0], .v (.mv)⟩,
      ⟨some 6, none, [.t 5], .v (.nilchk)⟩,
      ⟨some 7, none, [.t 6], .v (.faddr 2)⟩,
      ⟨some 8, none, [.t 7], .loadS 1 false⟩,
      ⟨some 9, none, [.t 8], .v (.un .not)⟩,
      ⟨some 10, none, [.t 9], .v (.mv)⟩,
      ⟨some 11, some (10, true), [.t 0], .v (.mv)⟩,
      ⟨some 12, some (10, true), [.t 11], .v (.nilchk)⟩,
      ⟨some 13, some (10, true), [.t 12], .v (.faddr 1)⟩,
      ⟨some 14, some (10, true), [.t 13], .loadS 1 false⟩,
      ⟨some 15, some (10, true), [.t 0], .v (.mv)⟩,
      ⟨some 16, some (10, true), [.t 15], .v (.nilchk)⟩,
      ⟨some 17, some (10, true), [.t 16], .v (.faddr 0)⟩,
      ⟨some 18, some (10, true), [.t 17], .loadS 1 false⟩,
      ⟨some 19, some (10, true), [.t 18], .v (.len)⟩,
      ⟨some 20, some (10, true), [.t 14, .t 19], .v (.bin .lss)⟩,
      ⟨some 21, none, [.t 10, .t 20, .c (.pv (.bool false))], .v (.pick)⟩,
      ⟨some 22, none, [.t 21], .v (.mv)⟩,
      ⟨some 23, some (22, true), [.t 0], .v (.mv)⟩,
      ⟨some 24, some (22, true), [.t 23], .v (.nilchk)⟩,
      ⟨some 25, some (22, true), [.t 24], .v (.faddr 0)⟩,
      ⟨some 26, some (22, true), [.t 25], .loadS 1 false⟩,
      ⟨some 27, some (22, true), [.t 0], .v (.mv)⟩,
      ⟨some 28, some (22, true), [.t 27], .v (.nilchk)⟩,
      ⟨some 29, some (22, true), [.t 28], .v (.faddr 1)⟩,
      ⟨some 30, some (22, true), [.t 29], .loadS 1 false⟩,
      ⟨some 31, some (22, true), [.t 26, .t 30], .v (.iaddr 3)⟩,
      ⟨some 32, some (22, true), [.t 31], .v (.faddr 0)⟩,
      ⟨some 33, some (22, true), [.t 32], .v (.loadE 1 false)⟩,
      ⟨some 34, some (22, true), [.t 1], .v (.mv)⟩,
      ⟨some 35, some (22, true), [.t 33, .t 34], .v (.bin .eql)⟩,
      ⟨some 36, none, [.t 22, .t 35, .c (.pv (.bool false))], .v (.pick)⟩,
      ⟨some 4, none, [.t 36], .v (.mv)⟩] [4])
    .ret)), none, false⟩

/- (*typedholes/typedholesref5.Reader).Atoms -/
def g130 : AFunc := ⟨1, 13, [.t 2],
  (.seq
   (.reg [⟨some 2, none, [.c (.pv (.bool false))], .v (.mv)⟩] [0])
   (.seq
    (.reg [⟨some 3, none, [.t 0], .v (.mv)⟩,
      ⟨some 4, none, [.t 3, .c (.pv (.int .i64 1))], .callI 129 []⟩,
      ⟨some 5, none, [.t 4], .v (.mv)⟩,
      ⟨some 6, some (5, false), [.t 0], .v (.mv)⟩,
      ⟨some 7, some (5, false), [.t 6, .c (.pv (.int .i64 2))], .callI 129 []⟩,
      ⟨some 8, none, [.t 5, .c (.pv (.bool true)), .t 7], .v (.pick)⟩,
      ⟨some 9, none, [.t 8], .v (.mv)⟩,
      ⟨some 10, some (9, false), [.t 0], .v (.mv)⟩,
      ⟨some 11, some (9, false), [.t 10, .c (.pv (.str [40]))], .callI 120 []⟩,
      ⟨some 12, none, [.t 9, .c (.pv (.bool true)), .t 11], .v (.pick)⟩,
      ⟨some 2, none, [.t 12], .v (.mv)⟩] [2])
    .ret)), none, false⟩

/- (*typedholes/typedholesref5.Reader).Atom -/
def g131 : AFunc := ⟨1, 28, [.c 2 5 true],
  (.seq
   (.reg [⟨some 2, none, [], .alloc 2 [.int .i64 0, .str [], .int .i64 0, .int .i64 0, .lst []]⟩] [0, 2])
   (.seq
    (.block 0
     (.seq
      (.reg [⟨some 5, none, [.t 0], .v (.mv)⟩,
        ⟨some 6, none, [.t 5, .c (.pv (.int .i64 1))], .callI 129 []⟩,
        ⟨some 4, none, [.t 6], .v (.mv)⟩] [0, 2, 4])
      (.cond (.t 4)
       (.seq
        (.reg [⟨some 7, none, [.t 0], .v (.mv)⟩,
          ⟨some 8, none, [.t 7, .c (.pv (.int .i64 1))], .callI 128 []⟩,
          ⟨some 9, none, [.t 8], .callP 106⟩,
          ⟨none, none, [.t 2, .t 9], .storeL 2 0 5⟩] [2])
        .ret)
       (.seq
        (.reg [⟨some 11, none, [.t 0], .v (.mv)⟩,
          ⟨some 12, none, [.t 11, .c (.pv (.int .i64 2))], .callI 129 []⟩,
          ⟨some 10, none, [.t 12], .v (.mv)⟩] [0, 2, 10])
        (.cond (.t 10)
         (.seq
          (.reg [⟨some 13, none, [.t 0], .v (.mv)⟩,
            ⟨some 14, none, [.t 13, .c (.pv (.int .i64 2))], .callI 128 []⟩,
            ⟨some 15, none, [.t 14, .c (.clp [])], .callI 62 []⟩,
            ⟨none, none, [.t 2, .t 15], .storeL 2 0 5⟩] [2])
          .ret)
         .skip)))))
    (.seq
     (.reg [⟨some 16, none, [.t 0], .v (.mv)⟩,
       ⟨some 17, none, [.t 16, .c (.pv (.str [40]))], .callI 127 []⟩] [0, 2])
     (.seq
      (.seq
       (.reg [⟨some 18, none, [.t 0], .v (.mv)⟩,
         ⟨some 19, none, [.t 18], .v (.nilchk)⟩,
         ⟨some 20, none, [.t 19], .v (.faddr 2)⟩,
         ⟨some 21, none, [.t 20], .loadS 1 false⟩] [0, 2, 21])
       (.cond (.t 21)
        (.seq
         (.reg [⟨some 22, none, [], .v (.build [.int .i64 0, .str [], .int .i64 0, .int .i64 0, .lst []] [])⟩,
           ⟨none, none, [.t 2, .t 22], .storeL 2 0 5⟩] [2])
         .ret)
        .skip))
      (.seq
       (.reg [⟨some 23, none, [.t 0], .v (.mv)⟩,
         ⟨some 24, none, [.t 23], .callI 133 []⟩,
         ⟨some 3, none, [], .alloc 3 [.int .i64 0, .str [], .int .i64 0, .int .i64 0, .lst []]⟩,
         ⟨none, none, [.t 3, .t 24], .storeL 3 0 5⟩] [0, 2, 3])
       (.seq
        (.reg [⟨some 25, none, [.t 0], .v (.mv)⟩,
          ⟨some 26, none, [.t 25, .c (.pv (.str [41]))], .callI 127 []⟩] [2, 3])
        (.seq
         (.reg [⟨some 27, none, [.t 3], .loadL 3 0 5 true⟩,
           ⟨none, none, [.t 2, .t 27], .storeL 2 0 5⟩] [2])
         .ret))))))), none, false⟩

/- (*typedholes/typedholesref5.Reader).Skip -/
def g132 : AFunc := ⟨2, 15, [.t 4],
  (.seq
   (.reg [⟨some 4, none, [.c (.pv (.bool false))], .v (.mv)⟩] [0, 1])
   (.seq
    (.seq
     (.reg [⟨some 5, none, [.t 0], .v (.mv)⟩,
       ⟨some 6, none, [.t 1], .v (.mv)⟩,
       ⟨some 7, none, [.t 5, .t 6], .callI 120 []⟩] [0, 7])
     (.cond (.t 7)
      (.seq
       (.reg [⟨some 8, none, [.t 0], .v (.mv)⟩,
         ⟨some 9, none, [.t 8], .v (.nilchk)⟩,
         ⟨some 10, none, [.t 9], .v (.faddr 1)⟩,
         ⟨some 11, none, [.t 10], .loadS 1 false⟩,
         ⟨some 12, none, [.t 11, .c (.pv (.int .i64 1))], .v (.bin .add)⟩,
         ⟨some 13, none, [.t 8], .v (.nilchk)⟩,
         ⟨some 14, none, [.t 13], .v (.faddr 1)⟩,
         ⟨none, none, [.t 14, .t 12], .storeS 1⟩] [])
       (.seq
        (.reg [⟨some 4, none, [.c (.pv (.bool true))], .v (.mv)⟩] [4])
        .ret))
      .skip))
    (.seq
     (.reg [⟨some 4, none, [.c (.pv (.bool false))], .v (.mv)⟩] [4])
     .ret))), none, false⟩

/- (*typedholes/typedholesref5.Reader).Type -/
def g133B0 : ACode :=
  (.seq
   (.seq
    (.reg [⟨some 9, none, [.t 0], .v (.mv)⟩,
      ⟨some 10, none, [.t 9], .callI 130 []⟩] [0, 2, 3, 10])
    (.cond (.t 10)
     .skip
     (.exit 0)))
   (.block 1
    (.reg [⟨some 11, none, [.t 3], .v (.faddr 4)⟩,
      ⟨some 12, none, [.t 11], .loadL 3 4 1 false⟩,
      ⟨some 13, none, [.t 0], .v (.mv)⟩,
      ⟨some 14, none, [.t 13], .callI 131 []⟩,
      ⟨some 15, none, [.t 14], .v (.bslice 5)⟩,
      ⟨some 16, none, [.t 12, .t 15], .append 5 64⟩,
      ⟨some 17, none, [.t 3], .v (.faddr 4)⟩,
      ⟨none, none, [.t 17, .t 16], .storeL 3 4 1⟩] [0, 2, 3])))
def g133L0 : ACode := .loop [0, 2, 3] g133B0
theorem g133L0_eq {AP : Nat → Option AFunc} {st : St} : cl AP g133L0 st = after (cl AP g133L0) (cl AP g133B0 (norm (restrict [0, 2, 3] st))) := cl_loop
def g133 : AFunc := ⟨1, 27, [.c 2 5 true],
  (.seq
   (.reg [⟨some 2, none, [], .alloc 2 [.int .i64 0, .str [], .int .i64 0, .int .i64 0, .lst []]⟩] [0, 2])
   (.seq
    (.reg [⟨some 3, none, [], .alloc 3 [.int .i64 0, .str [], .int .i64 0, .int .i64 0, .lst []]⟩] [0, 2, 3])
    (.seq
     (.seq
      (.reg [⟨some 4, none, [.t 0], .v (.mv)⟩,
        ⟨some 5, none, [.t 4, .c (.pv (.int .i64 2))], .callI 129 []⟩] [0, 2, 3, 5])
      (.cond (.t 5)
       (.seq
        (.reg [⟨some 6, none, [.t 0], .v (.mv)⟩,
          ⟨some 7, none, [.t 6, .c (.pv (.int .i64 2))], .callI 128 []⟩,
          ⟨some 8, none, [.t 7, .c (.clp [])], .callI 62 []⟩,
          ⟨none, none, [.t 3, .t 8], .storeL 3 0 5⟩] [0, 2, 3])
        (.block 0
         g133L0))
       (.reg [⟨some 18, none, [.t 0], .v (.mv)⟩,
         ⟨some 19, none, [.t 18], .callI 131 []⟩,
         ⟨none, none, [.t 3, .t 19], .storeL 3 0 5⟩] [0, 2, 3])))
     (.seq
      (.seq
       (.reg [⟨some 20, none, [.t 0], .v (.mv)⟩,
         ⟨some 21, none, [.t 20, .c (.pv (.str [45, 62]))], .callI 132 []⟩] [0, 2, 3, 21])
       (.cond (.t 21)
        (.seq
         (.reg [⟨some 22, none, [.t 3], .loadL 3 0 5 true⟩,
           ⟨some 23, none, [.t 0], .v (.mv)⟩,
           ⟨some 24, none, [.t 23], .callI 133 []⟩,
           ⟨some 25, none, [.t 22, .t 24], .callP 69⟩,
           ⟨none, none, [.t 2, .t 25], .storeL 2 0 5⟩] [2])
         .ret)
        .skip))
      (.seq
       (.reg [⟨some 26, none, [.t 3], .loadL 3 0 5 true⟩,
         ⟨none, none, [.t 2, .t 26], .storeL 2 0 5⟩] [2])
       .ret))))), none, false⟩

/- typedholes/typedholesref6.Read -/
def g134B0 : ACode :=
  (.seq
   (.seq
    (.reg [⟨some 69, none, [.t 0], .v (.mv)⟩,
      ⟨some 70, none, [.t 69], .v (.nilchk)⟩,
      ⟨some 71, none, [.t 70], .v (.faddr 2)⟩,
      ⟨some 72, none, [.t 71], .loadS 1 false⟩,
      ⟨some 73, none, [.t 72], .v (.un .not)⟩,
      ⟨some 74, none, [.t 73], .v (.mv)⟩,
      ⟨some 75, some (74, true), [.t 0], .v (.mv)⟩,
      ⟨some 76, some (74, true), [.t 75], .v (.nilchk)⟩,
      ⟨some 77, some (74, true), [.t 76], .v (.faddr 1)⟩,
      ⟨some 78, some (74, true), [.t 77], .loadS 1 false⟩,
      ⟨some 79, some (74, true), [.t 0], .v (.mv)⟩,
      ⟨some 80, some (74, true), [.t 79], .v (.nilchk)⟩,
      ⟨some 81, some (74, true), [.t 80], .v (.faddr 0)⟩,
      ⟨some 82, some (74, true), [.t 81], .loadS 1 false⟩,
      ⟨some 83, some (74, true), [.t 82], .v (.len)⟩,
      ⟨some 84, some (74, true), [.t 78, .t 83], .v (.bin .lss)⟩,
      ⟨some 85, none, [.t 74, .t 84, .c (.pv (.bool false))], .v (.pick)⟩,
      ⟨some 86, none, [.t 85], .v (.mv)⟩,
      ⟨some 87, some (86, true), [.t 0], .v (.mv)⟩,
      ⟨some 88, some (86, true), [.t 87], .v (.nilchk)⟩,
      ⟨some 89, some (86, true), [.t 88], .v (.faddr 0)⟩,
      ⟨some 90, some (86, true), [.t 89], .loadS 1 false⟩,
      ⟨some 91, some (86, true), [.t 0], .v (.mv)⟩,
      ⟨some 92, some (86, true), [.t 91], .v (.nilchk)⟩,
      ⟨some 93, some (86, true), [.t 92], .v (.faddr 1)⟩,
      ⟨some 94, some (86, true), [.t 93], .loadS 1 false⟩,
      ⟨some 95, some (86, true), [.t 90, .t 94], .v (.iaddr 3)⟩,
      ⟨some 96, some (86, true), [.t 95], .v (.loadE 3 true)⟩,
      ⟨some 97, some (86, true), [.t 96], .callP 142⟩,
      ⟨some 98, none, [.t 86, .t 97, .c (.pv (.bool false))], .v (.pick)⟩] [0, 2, 8, 98])
    (.cond (.t 98)
     .skip
     (.exit 1)))
   (.block 2
    (.seq
     (.reg [⟨some 99, none, [.t 0], .v (.mv)⟩,
       ⟨some 100, none, [.t 99], .callI 141 []⟩,
       ⟨some 9, none, [], .alloc 9 [.int .i64 0, .int .i64 0, .str [], .int .i64 0, .lst [], .lst [], .int .i64 0, .str [], .int .i64 0, .int .i64 0, .lst []]⟩,
       ⟨none, none, [.t 9, .t 100], .storeL 9 0 11⟩] [0, 2, 8, 9])
     (.reg [⟨some 101, none, [.t 8], .v (.faddr 1)⟩,
       ⟨some 102, none, [.t 101], .loadL 8 1 1 false⟩,
       ⟨some 103, none, [.t 8], .loadL 8 0 11 true⟩,
       ⟨some 104, none, [.t 9], .loadL 9 0 11 true⟩,
       ⟨some 105, none, [.t 103, .t 104], .v (.bslice 11)⟩,
       ⟨some 106, none, [.c (.pv (.int .i64 5)), .t 102, .t 105], .v (.build [.int .i64 0, .int .i64 0, .str [], .int .i64 0, .lst [], .lst [], .int .i64 0, .str [], .int .i64 0, .int .i64 0, .lst []] [(0, 1), (1, 1), (4, 1)])⟩,
       ⟨none, none, [.t 8, .t 106], .storeL 8 0 11⟩] [0, 2, 8]))))
def g134L0 : ACode := .loop [0, 2, 8] g134B0
theorem g134L0_eq {AP : Nat → Option AFunc} {st : St} : cl AP g134L0 st = after (cl AP g134L0) (cl AP g134B0 (norm (restrict [0, 2, 8] st))) := cl_loop
def g134 : AFunc := ⟨1, 108, [.c 2 11 true],
  (.seq
   (.reg [⟨some 2, none, [], .alloc 2 [.int .i64 0, .int .i64 0, .str [], .int .i64 0, .lst [], .lst [], .int .i64 0, .str [], .int .i64 0, .int .i64 0, .lst []]⟩] [0, 2])
   (.seq
    (.reg [⟨some 10, none, [.t 0], .v (.mv)⟩,
      ⟨some 11, none, [.t 10], .callI 126 []⟩,
      ⟨some 3, none, [.t 11], .v (.mv)⟩] [0, 2, 3])
    (.seq
     (.block 0
      (.seq
       (.reg [⟨some 13, none, [.t 0], .v (.mv)⟩,
         ⟨some 14, none, [.t 13, .c (.pv (.str [92]))], .callI 132 []⟩,
         ⟨some 12, none, [.t 14], .v (.mv)⟩] [0, 2, 3, 12])
       (.cond (.t 12)
        (.seq
         (.reg [⟨some 15, none, [.t 0], .v (.mv)⟩,
           ⟨some 16, none, [.t 15, .c (.pv (.int .i64 1))], .callI 128 []⟩,
           ⟨some 4, none, [.t 16], .v (.mv)⟩] [0, 2, 3, 4])
         (.seq
          (.reg [⟨some 17, none, [.t 0], .v (.mv)⟩,
            ⟨some 18, none, [.t 17, .c (.pv (.str [46]))], .callI 127 []⟩] [0, 2, 3, 4])
          (.seq
           (.seq
            (.reg [⟨some 19, none, [.t 0], .v (.mv)⟩,
              ⟨some 20, none, [.t 19], .v (.nilchk)⟩,
              ⟨some 21, none, [.t 20], .v (.faddr 2)⟩,
              ⟨some 22, none, [.t 21], .loadS 1 false⟩] [0, 2, 3, 4, 22])
            (.cond (.t 22)
             (.seq
              (.reg [⟨some 23, none, [], .v (.build [.int .i64 0, .int .i64 0, .str [], .int .i64 0, .lst [], .lst [], .int .i64 0, .str [], .int .i64 0, .int .i64 0, .lst []] [])⟩,
                ⟨none, none, [.t 2, .t 23], .storeL 2 0 11⟩] [2])
              .ret)
             .skip))
           (.seq
            (.reg [⟨some 24, none, [.t 3], .v (.mv)⟩,
              ⟨some 25, none, [.t 4], .v (.mv)⟩,
              ⟨some 26, none, [.t 0], .v (.mv)⟩,
              ⟨some 27, none, [.t 26], .callI 134 []⟩,
              ⟨some 28, none, [.t 27], .v (.bslice 11)⟩,
              ⟨some 29, none, [.c (.pv (.int .i64 4)), .t 24, .t 25, .t 28], .v (.build [.int .i64 0, .int .i64 0, .str [], .int .i64 0, .lst [], .lst [], .int .i64 0, .str [], .int .i64 0, .int .i64 0, .lst []] [(0, 1), (1, 1), (2, 1), (4, 1)])⟩,
              ⟨none, none, [.t 2, .t 29], .storeL 2 0 11⟩] [2])
            .ret))))
        (.seq
         (.reg [⟨some 31, none, [.t 0], .v (.mv)⟩,
           ⟨some 32, none, [.t 31, .c (.pv (.str [108, 101, 116]))], .callI 132 []⟩,
           ⟨some 30, none, [.t 32], .v (.mv)⟩] [0, 2, 3, 30])
         (.cond (.t 30)
          (.seq
           (.reg [⟨some 5, none, [.c (.pv (.int .i64 6))], .v (.mv)⟩] [0, 2, 3, 5])
           (.seq
            (.seq
             (.reg [⟨some 33, none, [.t 0], .v (.mv)⟩,
               ⟨some 34, none, [.t 33, .c (.pv (.str [114, 101, 99]))], .callI 132 []⟩] [0, 2, 3, 5, 34])
             (.cond (.t 34)
              (.reg [⟨some 5, none, [.c (.pv (.int .i64 7))], .v (.mv)⟩] [0, 2, 3, 5])
              .skip))
            (.seq
             (.reg [⟨some 35, none, [.t 0], .v (.mv)⟩,
               ⟨some 36, none, [.t 35, .c (.pv (.int .i64 1))], .callI 128 []⟩,
               ⟨some 6, none, [.t 36], .v (.mv)⟩] [0, 2, 3, 5, 6])
             (.seq
              (.reg [⟨some 37, none, [.t 0], .v (.mv)⟩,
                ⟨some 38, none, [.t 37, .c (.pv (.str [61]))], .callI 127 []⟩] [0, 2, 3, 5, 6])
              (.seq
               (.seq
                (.reg [⟨some 39, none, [.t 0], .v (.mv)⟩,
                  ⟨some 40, none, [.t 39], .v (.nilchk)⟩,
                  ⟨some 41, none, [.t 40], .v (.faddr 2)⟩,
                  ⟨some 42, none, [.t 41], .loadS 1 false⟩] [0, 2, 3, 5, 6, 42])
                (.cond (.t 42)
                 (.seq
                  (.reg [⟨some 43, none, [], .v (.build [.int .i64 0, .int .i64 0, .str [], .int .i64 0, .lst [], .lst [], .int .i64 0, .str [], .int .i64 0, .int .i64 0, .lst []] [])⟩,
                    ⟨none, none, [.t 2, .t 43], .storeL 2 0 11⟩] [2])
                  .ret)
                 .skip))
               (.seq
                (.reg [⟨some 44, none, [.t 0], .v (.mv)⟩,
                  ⟨some 45, none, [.t 44], .callI 134 []⟩,
                  ⟨some 7, none, [], .alloc 7 [.int .i64 0, .int .i64 0, .str [], .int .i64 0, .lst [], .lst [], .int .i64 0, .str [], .int .i64 0, .int .i64 0, .lst []]⟩,
                  ⟨none, none, [.t 7, .t 45], .storeL 7 0 11⟩] [0, 2, 3, 5, 6, 7])
                (.seq
                 (.reg [⟨some 46, none, [.t 0], .v (.mv)⟩,
                   ⟨some 47, none, [.t 46, .c (.pv (.str [105, 110]))], .callI 127 []⟩] [0, 2, 3, 5, 6, 7])
                 (.seq
                  (.seq
                   (.reg [⟨some 48, none, [.t 0], .v (.mv)⟩,
                     ⟨some 49, none, [.t 48], .v (.nilchk)⟩,
                     ⟨some 50, none, [.t 49], .v (.faddr 2)⟩,
                     ⟨some 51, none, [.t 50], .loadS 1 false⟩] [0, 2, 3, 5, 6, 7, 51])
                   (.cond (.t 51)
                    (.seq
                     (.reg [⟨some 52, none, [], .v (.build [.int .i64 0, .int .i64 0, .str [], .int .i64 0, .lst [], .lst [], .int .i64 0, .str [], .int .i64 0, .int .i64 0, .lst []] [])⟩,
                       ⟨none, none, [.t 2, .t 52], .storeL 2 0 11⟩] [2])
                     .ret)
                    .skip))
                  (.seq
                   (.reg [⟨some 53, none, [.t 5], .v (.mv)⟩,
                     ⟨some 54, none, [.t 3], .v (.mv)⟩,
                     ⟨some 55, none, [.t 6], .v (.mv)⟩,
                     ⟨some 56, none, [.t 7], .loadL 7 0 11 true⟩,
                     ⟨some 57, none, [.t 0], .v (.mv)⟩,
                     ⟨some 58, none, [.t 57], .callI 134 []⟩,
                     ⟨some 59, none, [.t 56, .t 58], .v (.bslice 11)⟩,
                     ⟨some 60, none, [.t 53, .t 54, .t 55, .t 59], .v (.build [.int .i64 0, .int .i64 0, .str [], .int .i64 0, .lst [], .lst [], .int .i64 0, .str [], .int .i64 0, .int .i64 0, .lst []] [(0, 1), (1, 1), (2, 1), (4, 1)])⟩,
                     ⟨none, none, [.t 2, .t 60], .storeL 2 0 11⟩] [2])
                   .ret)))))))))
          (.seq
           (.reg [⟨some 62, none, [.t 0], .v (.mv)⟩,
             ⟨some 63, none, [.t 62, .c (.pv (.str [99, 97, 115, 101]))], .callI 132 []⟩,
             ⟨some 61, none, [.t 63], .v (.mv)⟩] [0, 2, 3, 61])
           (.cond (.t 61)
            (.seq
             (.reg [⟨some 64, none, [.t 0], .v (.mv)⟩,
               ⟨some 65, none, [.t 3], .v (.mv)⟩,
               ⟨some 66, none, [.t 64, .t 65], .callI 140 []⟩,
               ⟨none, none, [.t 2, .t 66], .storeL 2 0 11⟩] [2])
             .ret)
            .skip)))))))
     (.seq
      (.reg [⟨some 67, none, [.t 0], .v (.mv)⟩,
        ⟨some 68, none, [.t 67], .callI 141 []⟩,
        ⟨some 8, none, [], .alloc 8 [.int .i64 0, .int .i64 0, .str [], .int .i64 0, .lst [], .lst [], .int .i64 0, .str [], .int .i64 0, .int .i64 0, .lst []]⟩,
        ⟨none, none, [.t 8, .t 68], .storeL 8 0 11⟩] [0, 2, 8])
      (.seq
       (.block 1
        g134L0)
       (.seq
        (.reg [⟨some 107, none, [.t 8], .loadL 8 0 11 true⟩,
          ⟨none, none, [.t 2, .t 107], .storeL 2 0 11⟩] [2])
        .ret)))))), none, false⟩

/- typedholes/typedholesref7.deepExpr -/
def g135 : AFunc := ⟨1, 10, [.t 2],
  (.seq
   (.reg [⟨some 1, none, [.t 0], .box 1 11⟩,
     ⟨some 2, none, [.c (.pv (.bool false))], .v (.mv)⟩] [1])
   (.seq
    (.reg [⟨some 3, none, [.t 1], .loadL 1 0 11 true⟩,
      ⟨some 4, none, [.t 3], .callP 143⟩,
      ⟨some 5, none, [.t 4, .c (.pv (.int .i64 40))], .v (.bin .gtr)⟩,
      ⟨some 6, none, [.t 5], .v (.mv)⟩,
      ⟨some 7, some (6, false), [.t 1], .loadL 1 0 11 true⟩,
      ⟨some 8, some (6, false), [.t 7], .callP 144⟩,
      ⟨some 9, none, [.t 6, .c (.pv (.bool true)), .t 8], .v (.pick)⟩,
      ⟨some 2, none, [.t 9], .v (.mv)⟩] [2])
    .ret)), none, false⟩

/- typedholes/typedholesref7.wide -/
def g136B0 : ACode :=
  (.seq
   (.seq
    (.reg [⟨some 9, none, [.t 4], .v (.mv)⟩,
      ⟨some 10, none, [.t 1], .v (.faddr 5)⟩,
      ⟨some 11, none, [.t 10], .loadL 1 5 1 false⟩,
      ⟨some 12, none, [.t 11], .v (.len)⟩,
      ⟨some 13, none, [.t 9, .t 12], .v (.bin .lss)⟩] [1, 4, 13])
    (.cond (.t 13)
     .skip
     (.exit 0)))
   (.seq
    (.block 1
     (.seq
      (.reg [⟨some 16, none, [.t 1], .v (.faddr 5)⟩,
        ⟨some 17, none, [.t 16], .loadL 1 5 1 false⟩,
        ⟨some 18, none, [.t 4], .v (.mv)⟩,
        ⟨some 19, none, [.t 17, .t 18], .v (.iaddr 14)⟩,
        ⟨some 20, none, [.t 19], .v (.faddr 2)⟩,
        ⟨some 21, none, [.t 20], .v (.loadE 1 false)⟩,
        ⟨some 22, none, [.t 21], .v (.len)⟩,
        ⟨some 23, none, [.t 22, .c (.pv (.int .i64 4))], .v (.bin .gtr)⟩] [1, 4, 23])
      (.cond (.t 23)
       (.seq
        (.reg [⟨some 24, none, [.t 1], .v (.faddr 5)⟩,
          ⟨some 25, none, [.t 24], .loadL 1 5 1 false⟩,
          ⟨some 26, none, [.t 4], .v (.mv)⟩,
          ⟨some 27, none, [.t 25, .t 26], .v (.iaddr 14)⟩,
          ⟨some 28, none, [.t 27], .v (.faddr 0)⟩,
          ⟨some 29, none, [.t 28], .v (.loadE 1 false)⟩,
          ⟨some 2, none, [.t 29], .v (.mv)⟩,
          ⟨some 3, none, [.c (.pv (.bool true))], .v (.mv)⟩] [2, 3])
        .ret)
       .skip)))
    (.reg [⟨some 14, none, [.t 4], .v (.mv)⟩,
      ⟨some 15, none, [.t 14, .c (.pv (.int .i64 1))], .v (.bin .add)⟩,
      ⟨some 4, none, [.t 15], .v (.mv)⟩] [1, 4])))
def g136L0 : ACode := .loop [1, 4] g136B0
theorem g136L0_eq {AP : Nat → Option AFunc} {st : St} : cl AP g136L0 st = after (cl AP g136L0) (cl AP g136B0 (norm (restrict [1, 4] st))) := cl_loop
def g136B1 : ACode :=
  (.seq
   (.seq
    (.reg [⟨some 32, none, [.t 6], .v (.mv)⟩,
      ⟨some 33, none, [.t 5], .v (.mv)⟩,
      ⟨some 34, none, [.t 33], .v (.len)⟩,
      ⟨some 35, none, [.t 32, .t 34], .v (.bin .lss)⟩] [5, 6, 35])
    (.cond (.t 35)
     .skip
     (.exit 2)))
   (.seq
    (.block 3
     (.seq
      (.reg [⟨some 39, none, [.t 5], .v (.mv)⟩,
        ⟨some 40, none, [.t 6], .v (.mv)⟩,
        ⟨some 41, none, [.t 39, .t 40], .v (.iaddr 11)⟩,
        ⟨some 42, none, [.t 41], .v (.loadE 11 true)⟩,
        ⟨some 43, none, [.t 42], .callP 136⟩,
        ⟨some 38, none, [.t 43], .v (.mv)⟩,
        ⟨some 44, none, [.t 38], .v (.ext 0)⟩,
        ⟨some 45, none, [.t 38], .v (.ext 1)⟩,
        ⟨some 7, none, [.t 44], .v (.mv)⟩,
        ⟨some 8, none, [.t 45], .v (.mv)⟩] [5, 6, 7, 8])
      (.seq
       (.reg [⟨some 46, none, [.t 8], .v (.mv)⟩] [5, 6, 7, 46])
       (.cond (.t 46)
        (.seq
         (.reg [⟨some 47, none, [.t 7], .v (.mv)⟩,
           ⟨some 2, none, [.t 47], .v (.mv)⟩,
           ⟨some 3, none, [.c (.pv (.bool true))], .v (.mv)⟩] [2, 3])
         .ret)
        .skip))))
    (.reg [⟨some 36, none, [.t 6], .v (.mv)⟩,
      ⟨some 37, none, [.t 36, .c (.pv (.int .i64 1))], .v (.bin .add)⟩,
      ⟨some 6, none, [.t 37], .v (.mv)⟩] [5, 6])))
def g136L1 : ACode := .loop [5, 6] g136B1
theorem g136L1_eq {AP : Nat → Option AFunc} {st : St} : cl AP g136L1 st = after (cl AP g136L1) (cl AP g136B1 (norm (restrict [5, 6] st))) := cl_loop
def g136 : AFunc := ⟨1, 48, [.t 2, .t 3],
  (.seq
   (.reg [⟨some 1, none, [.t 0], .box 1 11⟩,
     ⟨some 2, none, [.c (.pv (.int .i64 0))], .v (.mv)⟩,
     ⟨some 3, none, [.c (.pv (.bool false))], .v (.mv)⟩] [1])
   (.seq
    (.seq
     (.reg [⟨some 4, none, [.c (.pv (.int .i64 0))], .v (.mv)⟩] [1, 4])
     (.block 0
      g136L0))
    (.seq
     (.reg [⟨some 30, none, [.t 1], .loadL 1 0 11 true⟩,
       ⟨some 31, none, [.t 30], .callP 145⟩,
       ⟨some 5, none, [.t 31], .v (.mv)⟩] [5])
     (.seq
      (.seq
       (.reg [⟨some 6, none, [.c (.pv (.int .i64 0))], .v (.mv)⟩] [5, 6])
       (.block 2
        g136L1))
      (.seq
       (.reg [⟨some 2, none, [.c (.pv (.int .i64 0))], .v (.mv)⟩,
         ⟨some 3, none, [.c (.pv (.bool false))], .v (.mv)⟩] [2, 3])
       .ret))))), none, false⟩

/- typedholes/typedholesref2.Integer -/
def g137B0 : ACode :=
  (.seq
   (.seq
    (.reg [⟨some 21, none, [.t 3], .v (.mv)⟩,
      ⟨some 22, none, [.t 0], .v (.mv)⟩,
      ⟨some 23, none, [.t 22], .v (.lenS)⟩,
      ⟨some 24, none, [.t 21, .t 23], .v (.bin .lss)⟩] [0, 3, 24])
    (.cond (.t 24)
     .skip
     (.exit 0)))
   (.seq
    (.block 1
     (.seq
      (.reg [⟨some 27, none, [.t 0], .v (.mv)⟩,
        ⟨some 28, none, [.t 3], .v (.mv)⟩,
        ⟨some 29, none, [.t 27, .t 28], .v (.index)⟩,
        ⟨some 30, none, [.t 29], .callP 124⟩,
        ⟨some 31, none, [.t 30], .v (.un .not)⟩] [0, 3, 31])
      (.cond (.t 31)
       (.seq
        (.reg [⟨some 2, none, [.c (.pv (.bool false))], .v (.mv)⟩] [2])
        .ret)
       .skip)))
    (.reg [⟨some 25, none, [.t 3], .v (.mv)⟩,
      ⟨some 26, none, [.t 25, .c (.pv (.int .i64 1))], .v (.bin .add)⟩,
      ⟨some 3, none, [.t 26], .v (.mv)⟩] [0, 3])))
def g137L0 : ACode := .loop [0, 3] g137B0
theorem g137L0_eq {AP : Nat → Option AFunc} {st : St} : cl AP g137L0 st = after (cl AP g137L0) (cl AP g137B0 (norm (restrict [0, 3] st))) := cl_loop
def g137 : AFunc := ⟨1, 32, [.t 2],
  (.seq
   (.reg [⟨some 2, none, [.c (.pv (.bool false))], .v (.mv)⟩] [0])
   (.seq
    (.seq
     (.reg [⟨some 4, none, [.t 0], .v (.mv)⟩,
       ⟨some 5, none, [.t 4, .c (.pv (.str []))], .v (.bin .eql)⟩,
       ⟨some 6, none, [.t 5], .v (.mv)⟩,
       ⟨some 7, some (6, false), [.t 0], .v (.mv)⟩,
       ⟨some 8, some (6, false), [.t 7], .v (.lenS)⟩,
       ⟨some 9, some (6, false), [.t 8, .c (.pv (.int .i64 9))], .v (.bin .gtr)⟩,
       ⟨some 10, none, [.t 6, .c (.pv (.bool true)), .t 9], .v (.pick)⟩,
       ⟨some 11, none, [.t 10], .v (.mv)⟩,
       ⟨some 12, some (11, false), [.t 0], .v (.mv)⟩,
       ⟨some 13, some (11, false), [.t 12, .c (.pv (.int .i64 0))], .v (.index)⟩,
       ⟨some 14, some (11, false), [.t 13, .c (.pv (.int .u8 48))], .v (.bin .eql)⟩,
       ⟨some 15, some (11, false), [.t 14], .v (.mv)⟩,
       ⟨some 16, some (15, true), [.t 0], .v (.mv)⟩,
       ⟨some 17, some (15, true), [.t 16], .v (.lenS)⟩,
       ⟨some 18, some (15, true), [.t 17, .c (.pv (.int .i64 1))], .v (.bin .gtr)⟩,
       ⟨some 19, some (11, false), [.t 15, .t 18, .c (.pv (.bool false))], .v (.pick)⟩,
       ⟨some 20, none, [.t 11, .c (.pv (.bool true)), .t 19], .v (.pick)⟩] [0, 20])
     (.cond (.t 20)
      (.seq
       (.reg [⟨some 2, none, [.c (.pv (.bool false))], .v (.mv)⟩] [2])
       .ret)
      .skip))
    (.seq
     (.seq
      (.reg [⟨some 3, none, [.c (.pv (.int .i64 0))], .v (.mv)⟩] [0, 3])
      (.block 0
       g137L0))
     (.seq
      (.reg [⟨some 2, none, [.c (.pv (.bool true))], .v (.mv)⟩] [2])
      .ret)))), none, false⟩

/- typedholes/typedholesref2.mark -/
def g138B0 : ACode :=
  (.seq
   (.seq
    (.reg [⟨some 6, none, [.t 3], .v (.mv)⟩,
      ⟨some 7, none, [.t 6, .c (.pv (.int .i64 11))], .v (.bin .lss)⟩] [0, 3, 7])
    (.cond (.t 7)
     .skip
     (.exit 0)))
   (.seq
    (.block 1
     (.seq
      (.reg [⟨some 10, none, [.t 0], .v (.mv)⟩,
        ⟨some 11, none, [.t 3], .v (.mv)⟩,
        ⟨some 12, none, [.t 3], .v (.mv)⟩,
        ⟨some 13, none, [.t 12, .c (.pv (.int .i64 1))], .v (.bin .add)⟩,
        ⟨some 14, none, [.c (.pv (.str [92, 46, 61, 59, 58, 124, 40, 41, 123, 125, 63])), .t 11, .t 13], .v (.slice true 0 true true false)⟩,
        ⟨some 15, none, [.t 10, .t 14], .v (.bin .eql)⟩] [0, 3, 15])
      (.cond (.t 15)
       (.seq
        (.reg [⟨some 2, none, [.c (.pv (.bool true))], .v (.mv)⟩] [2])
        .ret)
       .skip)))
    (.reg [⟨some 8, none, [.t 3], .v (.mv)⟩,
      ⟨some 9, none, [.t 8, .c (.pv (.int .i64 1))], .v (.bin .add)⟩,
      ⟨some 3, none, [.t 9], .v (.mv)⟩] [0, 3])))
def g138L0 : ACode := .loop [0, 3] g138B0
theorem g138L0_eq {AP : Nat → Option AFunc} {st : St} : cl AP g138L0 st = after (cl AP g138L0) (cl AP g138B0 (norm (restrict [0, 3] st))) := cl_loop
def g138 : AFunc := ⟨1, 16, [.t 2],
  (.seq
   (.reg [⟨some 2, none, [.c (.pv (.bool false))], .v (.mv)⟩] [0])
   (.seq
    (.seq
     (.reg [⟨some 4, none, [.t 0], .v (.mv)⟩,
       ⟨some 5, none, [.t 4, .c (.pv (.str [45, 62]))], .v (.bin .eql)⟩] [0, 5])
     (.cond (.t 5)
      (.seq
       (.reg [⟨some 2, none, [.c (.pv (.bool true))], .v (.mv)⟩] [2])
       .ret)
      .skip))
    (.seq
     (.seq
      (.reg [⟨some 3, none, [.c (.pv (.int .i64 0))], .v (.mv)⟩] [0, 3])
      (.block 0
       g138L0))
     (.seq
      (.reg [⟨some 2, none, [.c (.pv (.bool false))], .v (.mv)⟩] [2])
      .ret)))), none, false⟩

/- (*typedholes/typedholesref5.Reader).Fail -/
def g139 : AFunc := ⟨1, 63, [],
  (.seq
   (.seq
    (.reg [⟨some 3, none, [.t 0], .v (.mv)⟩,
      ⟨some 4, none, [.t 3], .v (.nilchk)⟩,
      ⟨some 5, none, [.t 4], .v (.faddr 2)⟩,
      ⟨some 6, none, [.t 5], .loadS 1 false⟩] [0, 6])
    (.cond (.t 6)
     .ret
     .skip))
   (.seq
    (.reg [⟨some 7, none, [.t 0], .v (.mv)⟩,
      ⟨some 8, none, [.t 7], .v (.nilchk)⟩,
      ⟨some 9, none, [.t 8], .v (.faddr 2)⟩,
      ⟨none, none, [.t 9, .c (.pv (.bool true))], .storeS 1⟩] [0])
    (.block 0
     (.seq
      (.reg [⟨some 11, none, [.t 0], .v (.mv)⟩,
        ⟨some 12, none, [.t 11], .v (.nilchk)⟩,
        ⟨some 13, none, [.t 12], .v (.faddr 1)⟩,
        ⟨some 14, none, [.t 13], .loadS 1 false⟩,
        ⟨some 15, none, [.t 0], .v (.mv)⟩,
        ⟨some 16, none, [.t 15], .v (.nilchk)⟩,
        ⟨some 17, none, [.t 16], .v (.faddr 0)⟩,
        ⟨some 18, none, [.t 17], .loadS 1 false⟩,
        ⟨some 19, none, [.t 18], .v (.len)⟩,
        ⟨some 20, none, [.t 14, .t 19], .v (.bin .lss)⟩,
        ⟨some 10, none, [.t 20], .v (.mv)⟩] [0, 10])
      (.cond (.t 10)
       (.reg [⟨some 21, none, [.t 0], .v (.mv)⟩,
         ⟨some 22, none, [.t 0], .v (.mv)⟩,
         ⟨some 23, none, [.t 22], .v (.nilchk)⟩,
         ⟨some 24, none, [.t 23], .v (.faddr 0)⟩,
         ⟨some 25, none, [.t 24], .loadS 1 false⟩,
         ⟨some 26, none, [.t 0], .v (.mv)⟩,
         ⟨some 27, none, [.t 26], .v (.nilchk)⟩,
         ⟨some 28, none, [.t 27], .v (.faddr 1)⟩,
         ⟨some 29, none, [.t 28], .loadS 1 false⟩,
         ⟨some 30, none, [.t 25, .t 29], .v (.iaddr 3)⟩,
         ⟨some 31, none, [.t 30], .v (.faddr 2)⟩,
         ⟨some 32, none, [.t 31], .v (.loadE 1 false)⟩,
         ⟨some 33, none, [.t 21], .v (.nilchk)⟩,
         ⟨some 34, none, [.t 33], .v (.faddr 3)⟩,
         ⟨none, none, [.t 34, .t 32], .storeS 1⟩] [])
       (.seq
        (.reg [⟨some 36, none, [.t 0], .v (.mv)⟩,
          ⟨some 37, none, [.t 36], .v (.nilchk)⟩,
          ⟨some 38, none, [.t 37], .v (.faddr 0)⟩,
          ⟨some 39, none, [.t 38], .loadS 1 false⟩,
          ⟨some 40, none, [.t 39], .v (.len)⟩,
          ⟨some 41, none, [.t 40, .c (.pv (.int .i64 0))], .v (.bin .gtr)⟩,
          ⟨some 35, none, [.t 41], .v (.mv)⟩] [0, 35])
        (.cond (.t 35)
         (.seq
          (.reg [⟨some 42, none, [.t 0], .v (.mv)⟩,
            ⟨some 43, none, [.t 42], .v (.nilchk)⟩,
            ⟨some 44, none, [.t 43], .v (.faddr 0)⟩,
            ⟨some 45, none, [.t 44], .loadS 1 false⟩,
            ⟨some 46, none, [.t 0], .v (.mv)⟩,
            ⟨some 47, none, [.t 46], .v (.nilchk)⟩,
            ⟨some 48, none, [.t 47], .v (.faddr 0)⟩,
            ⟨some 49, none, [.t 48], .loadS 1 false⟩,
            ⟨some 50, none, [.t 49], .v (.len)⟩,
            ⟨some 51, none, [.t 50, .c (.pv (.int .i64 1))], .v (.bin .sub)⟩,
            ⟨some 52, none, [.t 45, .t 51], .v (.iaddr 3)⟩,
            ⟨some 53, none, [.t 52], .v (.loadE 3 true)⟩,
            ⟨some 2, none, [], .alloc 2 [.int .i64 0, .str [], .int .i64 0]⟩,
            ⟨none, none, [.t 2, .t 53], .storeL 2 0 3⟩] [0, 2])
          (.reg [⟨some 54, none, [.t 0], .v (.mv)⟩,
            ⟨some 55, none, [.t 2], .v (.faddr 2)⟩,
            ⟨some 56, none, [.t 55], .loadL 2 2 1 false⟩,
            ⟨some 57, none, [.t 2], .v (.faddr 1)⟩,
            ⟨some 58, none, [.t 57], .loadL 2 1 1 false⟩,
            ⟨some 59, none, [.t 58], .v (.lenS)⟩,
            ⟨some 60, none, [.t 56, .t 59], .v (.bin .add)⟩,
            ⟨some 61, none, [.t 54], .v (.nilchk)⟩,
            ⟨some 62, none, [.t 61], .v (.faddr 3)⟩,
            ⟨none, none, [.t 62, .t 60], .storeS 1⟩] []))
         .skip))))))), none, false⟩

/- typedholes/typedholesref6.cases -/
def g140B1 : ACode :=
  (.seq
   (.seq
    (.reg [⟨some 19, none, [.t 0], .v (.mv)⟩,
      ⟨some 20, none, [.t 19, .c (.pv (.int .i64 1))], .callI 129 []⟩] [0, 4, 5, 6, 20])
    (.cond (.t 20)
     .skip
     (.exit 2)))
   (.block 3
    (.reg [⟨some 21, none, [.t 6], .v (.faddr 2)⟩,
      ⟨some 22, none, [.t 21], .loadL 6 2 1 false⟩,
      ⟨some 23, none, [.t 0], .v (.mv)⟩,
      ⟨some 24, none, [.t 23, .c (.pv (.int .i64 1))], .callI 128 []⟩,
      ⟨some 25, none, [.t 24], .v (.bslice 1)⟩,
      ⟨some 26, none, [.t 22, .t 25], .append 1 16⟩,
      ⟨some 27, none, [.t 6], .v (.faddr 2)⟩,
      ⟨none, none, [.t 27, .t 26], .storeL 6 2 1⟩] [0, 4, 5, 6])))
def g140L1 : ACode := .loop [0, 4, 5, 6] g140B1
theorem g140L1_eq {AP : Nat → Option AFunc} {st : St} : cl AP g140L1 st = after (cl AP g140L1) (cl AP g140B1 (norm (restrict [0, 4, 5, 6] st))) := cl_loop
def g140B0 : ACode :=
  (.block 1
   (.seq
    (.reg [⟨some 14, none, [.t 0], .v (.mv)⟩,
      ⟨some 15, none, [.t 14], .callI 126 []⟩,
      ⟨some 16, none, [.t 0], .v (.mv)⟩,
      ⟨some 17, none, [.t 16, .c (.pv (.int .i64 2))], .callI 128 []⟩,
      ⟨some 18, none, [.t 15, .t 17], .v (.build [.int .i64 0, .str [], .lst [], .int .i64 0, .int .i64 0, .str [], .int .i64 0, .lst [], .lst [], .int .i64 0, .str [], .int .i64 0, .int .i64 0, .lst []] [(0, 1), (1, 1)])⟩,
      ⟨some 6, none, [], .alloc 6 [.int .i64 0, .str [], .lst [], .int .i64 0, .int .i64 0, .str [], .int .i64 0, .lst [], .lst [], .int .i64 0, .str [], .int .i64 0, .int .i64 0, .lst []]⟩,
      ⟨none, none, [.t 6, .t 18], .storeL 6 0 14⟩] [0, 4, 5, 6])
    (.seq
     (.block 2
      g140L1)
     (.seq
      (.reg [⟨some 28, none, [.t 0], .v (.mv)⟩,
        ⟨some 29, none, [.t 28, .c (.pv (.str [46]))], .callI 127 []⟩] [0, 4, 5, 6])
      (.seq
       (.seq
        (.reg [⟨some 30, none, [.t 0], .v (.mv)⟩,
          ⟨some 31, none, [.t 30], .v (.nilchk)⟩,
          ⟨some 32, none, [.t 31], .v (.faddr 2)⟩,
          ⟨some 33, none, [.t 32], .loadS 1 false⟩] [0, 4, 5, 6, 33])
        (.cond (.t 33)
         (.seq
          (.reg [⟨some 34, none, [], .v (.build [.int .i64 0, .int .i64 0, .str [], .int .i64 0, .lst [], .lst [], .int .i64 0, .str [], .int .i64 0, .int .i64 0, .lst []] [])⟩,
            ⟨none, none, [.t 4, .t 34], .storeL 4 0 11⟩] [4])
          .ret)
         .skip))
       (.seq
        (.reg [⟨some 35, none, [.t 0], .v (.mv)⟩,
          ⟨some 36, none, [.t 35], .callI 134 []⟩,
          ⟨some 37, none, [.t 6], .v (.faddr 3)⟩,
          ⟨none, none, [.t 37, .t 36], .storeL 6 3 11⟩] [0, 4, 5, 6])
        (.seq
         (.reg [⟨some 38, none, [.t 5], .v (.faddr 5)⟩,
           ⟨some 39, none, [.t 38], .loadL 5 5 1 false⟩,
           ⟨some 40, none, [.t 6], .loadL 6 0 14 true⟩,
           ⟨some 41, none, [.t 40], .v (.bslice 14)⟩,
           ⟨some 42, none, [.t 39, .t 41], .append 14 200⟩,
           ⟨some 43, none, [.t 5], .v (.faddr 5)⟩,
           ⟨none, none, [.t 43, .t 42], .storeL 5 5 1⟩] [0, 4, 5])
         (.seq
          (.reg [⟨some 44, none, [.t 0], .v (.mv)⟩,
            ⟨some 45, none, [.t 44, .c (.pv (.str [124]))], .callI 132 []⟩,
            ⟨some 46, none, [.t 45], .v (.un .not)⟩] [0, 4, 5, 46])
          (.cond (.t 46)
           (.exit 0)
           .skip)))))))))
def g140L0 : ACode := .loop [0, 4, 5] g140B0
theorem g140L0_eq {AP : Nat → Option AFunc} {st : St} : cl AP g140L0 st = after (cl AP g140L0) (cl AP g140B0 (norm (restrict [0, 4, 5] st))) := cl_loop
def g140 : AFunc := ⟨2, 50, [.c 4 11 true],
  (.seq
   (.reg [⟨some 4, none, [], .alloc 4 [.int .i64 0, .int .i64 0, .str [], .int .i64 0, .lst [], .lst [], .int .i64 0, .str [], .int .i64 0, .int .i64 0, .lst []]⟩] [0, 1, 4])
   (.seq
    (.reg [⟨some 7, none, [.t 1], .v (.mv)⟩,
      ⟨some 8, none, [.t 0], .v (.mv)⟩,
      ⟨some 9, none, [.t 8], .callI 134 []⟩,
      ⟨some 10, none, [.t 9], .v (.bslice 11)⟩,
      ⟨some 11, none, [.c (.pv (.int .i64 8)), .t 7, .t 10], .v (.build [.int .i64 0, .int .i64 0, .str [], .int .i64 0, .lst [], .lst [], .int .i64 0, .str [], .int .i64 0, .int .i64 0, .lst []] [(0, 1), (1, 1), (4, 1)])⟩,
      ⟨some 5, none, [], .alloc 5 [.int .i64 0, .int .i64 0, .str [], .int .i64 0, .lst [], .lst [], .int .i64 0, .str [], .int .i64 0, .int .i64 0, .lst []]⟩,
      ⟨none, none, [.t 5, .t 11], .storeL 5 0 11⟩] [0, 4, 5])
    (.seq
     (.reg [⟨some 12, none, [.t 0], .v (.mv)⟩,
       ⟨some 13, none, [.t 12, .c (.pv (.str [111, 102]))], .callI 127 []⟩] [0, 4, 5])
     (.seq
      (.block 0
       g140L0)
      (.seq
       (.reg [⟨some 47, none, [.t 0], .v (.mv)⟩,
         ⟨some 48, none, [.t 47, .c (.pv (.str [101, 110, 100]))], .callI 127 []⟩] [4, 5])
       (.seq
        (.reg [⟨some 49, none, [.t 5], .loadL 5 0 11 true⟩,
          ⟨none, none, [.t 4, .t 49], .storeL 4 0 11⟩] [4])
        .ret)))))), none, false⟩

/- typedholes/typedholesref6.atom -/
def g141 : AFunc := ⟨1, 68, [.c 2 11 true],
  (.seq
   (.reg [⟨some 2, none, [], .alloc 2 [.int .i64 0, .int .i64 0, .str [], .int .i64 0, .lst [], .lst [], .int .i64 0, .str [], .int .i64 0, .int .i64 0, .lst []]⟩] [0, 2])
   (.seq
    (.reg [⟨some 7, none, [.t 0], .v (.mv)⟩,
      ⟨some 8, none, [.t 7], .callI 126 []⟩,
      ⟨some 3, none, [.t 8], .v (.mv)⟩] [0, 2, 3])
    (.seq
     (.block 0
      (.seq
       (.reg [⟨some 10, none, [.t 0], .v (.mv)⟩,
         ⟨some 11, none, [.t 10, .c (.pv (.int .i64 1))], .callI 129 []⟩,
         ⟨some 9, none, [.t 11], .v (.mv)⟩] [0, 2, 3, 9])
       (.cond (.t 9)
        (.seq
         (.reg [⟨some 12, none, [.t 3], .v (.mv)⟩,
           ⟨some 13, none, [.t 0], .v (.mv)⟩,
           ⟨some 14, none, [.t 13, .c (.pv (.int .i64 1))], .callI 128 []⟩,
           ⟨some 15, none, [.c (.pv (.int .i64 1)), .t 12, .t 14], .v (.build [.int .i64 0, .int .i64 0, .str [], .int .i64 0, .lst [], .lst [], .int .i64 0, .str [], .int .i64 0, .int .i64 0, .lst []] [(0, 1), (1, 1), (2, 1)])⟩,
           ⟨none, none, [.t 2, .t 15], .storeL 2 0 11⟩] [2])
         .ret)
        (.seq
         (.reg [⟨some 17, none, [.t 0], .v (.mv)⟩,
           ⟨some 18, none, [.t 17, .c (.pv (.int .i64 2))], .callI 129 []⟩,
           ⟨some 16, none, [.t 18], .v (.mv)⟩] [0, 2, 3, 16])
         (.cond (.t 16)
          (.seq
           (.reg [⟨some 19, none, [.t 3], .v (.mv)⟩,
             ⟨some 20, none, [.t 0], .v (.mv)⟩,
             ⟨some 21, none, [.t 20, .c (.pv (.int .i64 2))], .callI 128 []⟩,
             ⟨some 22, none, [.c (.pv (.int .i64 2)), .t 19, .t 21], .v (.build [.int .i64 0, .int .i64 0, .str [], .int .i64 0, .lst [], .lst [], .int .i64 0, .str [], .int .i64 0, .int .i64 0, .lst []] [(0, 1), (1, 1), (2, 1)])⟩,
             ⟨none, none, [.t 2, .t 22], .storeL 2 0 11⟩] [2])
           .ret)
          (.seq
           (.reg [⟨some 24, none, [.t 0], .v (.mv)⟩,
             ⟨some 25, none, [.t 24, .c (.pv (.int .i64 3))], .callI 129 []⟩,
             ⟨some 23, none, [.t 25], .v (.mv)⟩] [0, 2, 3, 23])
           (.cond (.t 23)
            (.seq
             (.reg [⟨some 26, none, [.t 3], .v (.mv)⟩,
               ⟨some 27, none, [.t 0], .v (.mv)⟩,
               ⟨some 28, none, [.t 27, .c (.pv (.int .i64 3))], .callI 128 []⟩,
               ⟨some 29, none, [.t 28], .callP 146⟩,
               ⟨some 30, none, [.c (.pv (.int .i64 3)), .t 26, .t 29], .v (.build [.int .i64 0, .int .i64 0, .str [], .int .i64 0, .lst [], .lst [], .int .i64 0, .str [], .int .i64 0, .int .i64 0, .lst []] [(0, 1), (1, 1), (3, 1)])⟩,
               ⟨none, none, [.t 2, .t 30], .storeL 2 0 11⟩] [2])
             .ret)
            (.seq
             (.reg [⟨some 32, none, [.t 0], .v (.mv)⟩,
               ⟨some 33, none, [.t 32, .c (.pv (.str [63]))], .callI 132 []⟩,
               ⟨some 31, none, [.t 33], .v (.mv)⟩] [0, 2, 3, 31])
             (.cond (.t 31)
              (.seq
               (.reg [⟨some 34, none, [.t 3], .v (.mv)⟩,
                 ⟨some 35, none, [.c (.pv (.int .i64 10)), .t 34], .v (.build [.int .i64 0, .int .i64 0, .str [], .int .i64 0, .lst [], .lst [], .int .i64 0, .str [], .int .i64 0, .int .i64 0, .lst []] [(0, 1), (1, 1)])⟩,
                 ⟨none, none, [.t 2, .t 35], .storeL 2 0 11⟩] [2])
               .ret)
              (.seq
               (.reg [⟨some 37, none, [.t 0], .v (.mv)⟩,
                 ⟨some 38, none, [.t 37, .c (.pv (.str [123]))], .callI 132 []⟩,
                 ⟨some 36, none, [.t 38], .v (.mv)⟩] [0, 2, 3, 36])
               (.cond (.t 36)
                (.seq
                 (.reg [⟨some 39, none, [.t 0], .v (.mv)⟩,
                   ⟨some 40, none, [.t 39], .callI 134 []⟩,
                   ⟨some 4, none, [], .alloc 4 [.int .i64 0, .int .i64 0, .str [], .int .i64 0, .lst [], .lst [], .int .i64 0, .str [], .int .i64 0, .int .i64 0, .lst []]⟩,
                   ⟨none, none, [.t 4, .t 40], .storeL 4 0 11⟩] [0, 2, 3, 4])
                 (.seq
                  (.reg [⟨some 41, none, [.t 0], .v (.mv)⟩,
                    ⟨some 42, none, [.t 41, .c (.pv (.str [125]))], .callI 127 []⟩] [2, 3, 4])
                  (.seq
                   (.reg [⟨some 43, none, [.t 3], .v (.mv)⟩,
                     ⟨some 44, none, [.t 4], .loadL 4 0 11 true⟩,
                     ⟨some 45, none, [.t 44], .v (.bslice 11)⟩,
                     ⟨some 46, none, [.c (.pv (.int .i64 11)), .t 43, .t 45], .v (.build [.int .i64 0, .int .i64 0, .str [], .int .i64 0, .lst [], .lst [], .int .i64 0, .str [], .int .i64 0, .int .i64 0, .lst []] [(0, 1), (1, 1), (4, 1)])⟩,
                     ⟨none, none, [.t 2, .t 46], .storeL 2 0 11⟩] [2])
                   .ret)))
                .skip)))))))))))
     (.seq
      (.reg [⟨some 47, none, [.t 0], .v (.mv)⟩,
        ⟨some 48, none, [.t 47, .c (.pv (.str [40]))], .callI 127 []⟩] [0, 2, 3])
      (.seq
       (.seq
        (.reg [⟨some 49, none, [.t 0], .v (.mv)⟩,
          ⟨some 50, none, [.t 49], .v (.nilchk)⟩,
          ⟨some 51, none, [.t 50], .v (.faddr 2)⟩,
          ⟨some 52, none, [.t 51], .loadS 1 false⟩] [0, 2, 3, 52])
        (.cond (.t 52)
         (.seq
          (.reg [⟨some 53, none, [], .v (.build [.int .i64 0, .int .i64 0, .str [], .int .i64 0, .lst [], .lst [], .int .i64 0, .str [], .int .i64 0, .int .i64 0, .lst []] [])⟩,
            ⟨none, none, [.t 2, .t 53], .storeL 2 0 11⟩] [2])
          .ret)
         .skip))
       (.seq
        (.reg [⟨some 54, none, [.t 0], .v (.mv)⟩,
          ⟨some 55, none, [.t 54], .callI 134 []⟩,
          ⟨some 5, none, [], .alloc 5 [.int .i64 0, .int .i64 0, .str [], .int .i64 0, .lst [], .lst [], .int .i64 0, .str [], .int .i64 0, .int .i64 0, .lst []]⟩,
          ⟨none, none, [.t 5, .t 55], .storeL 5 0 11⟩] [0, 2, 3, 5])
        (.seq
         (.seq
          (.reg [⟨some 56, none, [.t 0], .v (.mv)⟩,
            ⟨some 57, none, [.t 56, .c (.pv (.str [58]))], .callI 132 []⟩] [0, 2, 3, 5, 57])
          (.cond (.t 57)
           (.seq
            (.reg [⟨some 58, none, [.t 0], .v (.mv)⟩,
              ⟨some 59, none, [.t 58], .callI 133 []⟩,
              ⟨some 6, none, [], .alloc 6 [.int .i64 0, .str [], .int .i64 0, .int .i64 0, .lst []]⟩,
              ⟨none, none, [.t 6, .t 59], .storeL 6 0 5⟩] [0, 2, 3, 5, 6])
            (.reg [⟨some 60, none, [.t 3], .v (.mv)⟩,
              ⟨some 61, none, [.t 5], .loadL 5 0 11 true⟩,
              ⟨some 62, none, [.t 61], .v (.bslice 11)⟩,
              ⟨some 63, none, [.t 6], .loadL 6 0 5 true⟩,
              ⟨some 64, none, [.c (.pv (.int .i64 9)), .t 60, .t 62, .t 63], .v (.build [.int .i64 0, .int .i64 0, .str [], .int .i64 0, .lst [], .lst [], .int .i64 0, .str [], .int .i64 0, .int .i64 0, .lst []] [(0, 1), (1, 1), (4, 1), (6, 5)])⟩,
              ⟨none, none, [.t 5, .t 64], .storeL 5 0 11⟩] [0, 2, 5]))
           .skip))
         (.seq
          (.reg [⟨some 65, none, [.t 0], .v (.mv)⟩,
            ⟨some 66, none, [.t 65, .c (.pv (.str [41]))], .callI 127 []⟩] [2, 5])
          (.seq
           (.reg [⟨some 67, none, [.t 5], .loadL 5 0 11 true⟩,
             ⟨none, none, [.t 2, .t 67], .storeL 2 0 11⟩] [2])
           .ret))))))))), none, false⟩

/- typedholes/typedholesref6.Starts -/
def g142 : AFunc := ⟨1, 24, [.t 2],
  (.seq
   (.reg [⟨some 1, none, [.t 0], .box 1 3⟩,
     ⟨some 2, none, [.c (.pv (.bool false))], .v (.mv)⟩] [1])
   (.seq
    (.seq
     (.reg [⟨some 3, none, [.t 1], .v (.faddr 0)⟩,
       ⟨some 4, none, [.t 3], .loadL 1 0 1 false⟩] [1, 4])
     (.block 0
      (.seq
       (.seq
        (.reg [⟨some 6, none, [.t 4, .c (.pv (.int .i64 1))], .v (.bin .eql)⟩,
          ⟨some 5, none, [.t 6], .v (.mv)⟩] [1, 4, 5])
        (.cond (.t 5)
         .skip
         (.seq
          (.reg [⟨some 7, none, [.t 4, .c (.pv (.int .i64 2))], .v (.bin .eql)⟩,
            ⟨some 5, none, [.t 7], .v (.mv)⟩] [1, 4, 5])
          (.cond (.t 5)
           .skip
           (.reg [⟨some 8, none, [.t 4, .c (.pv (.int .i64 3))], .v (.bin .eql)⟩,
             ⟨some 5, none, [.t 8], .v (.mv)⟩] [1, 4, 5])))))
       (.cond (.t 5)
        (.seq
         (.reg [⟨some 2, none, [.c (.pv (.bool true))], .v (.mv)⟩] [2])
         .ret)
        (.seq
         (.reg [⟨some 10, none, [.t 4, .c (.pv (.int .i64 5))], .v (.bin .eql)⟩,
           ⟨some 9, none, [.t 10], .v (.mv)⟩] [1, 9])
         (.cond (.t 9)
          (.seq
           (.reg [⟨some 11, none, [.t 1], .v (.faddr 1)⟩,
             ⟨some 12, none, [.t 11], .loadL 1 1 1 false⟩,
             ⟨some 13, none, [.t 12, .c (.pv (.str [63]))], .v (.bin .eql)⟩,
             ⟨some 14, none, [.t 13], .v (.mv)⟩,
             ⟨some 15, some (14, false), [.t 1], .v (.faddr 1)⟩,
             ⟨some 16, some (14, false), [.t 15], .loadL 1 1 1 false⟩,
             ⟨some 17, some (14, false), [.t 16, .c (.pv (.str [40]))], .v (.bin .eql)⟩,
             ⟨some 18, none, [.t 14, .c (.pv (.bool true)), .t 17], .v (.pick)⟩,
             ⟨some 19, none, [.t 18], .v (.mv)⟩,
             ⟨some 20, some (19, false), [.t 1], .v (.faddr 1)⟩,
             ⟨some 21, some (19, false), [.t 20], .loadL 1 1 1 false⟩,
             ⟨some 22, some (19, false), [.t 21, .c (.pv (.str [123]))], .v (.bin .eql)⟩,
             ⟨some 23, none, [.t 19, .c (.pv (.bool true)), .t 22], .v (.pick)⟩,
             ⟨some 2, none, [.t 23], .v (.mv)⟩] [2])
           .ret)
          .skip))))))
    (.seq
     (.reg [⟨some 2, none, [.c (.pv (.bool false))], .v (.mv)⟩] [2])
     .ret))), none, false⟩

/- typedholes/typedholesref4.Depth -/
def g143B0 : ACode :=
  (.seq
   (.seq
    (.reg [⟨some 8, none, [.t 5], .v (.mv)⟩,
      ⟨some 9, none, [.t 4], .v (.mv)⟩,
      ⟨some 10, none, [.t 9], .v (.len)⟩,
      ⟨some 11, none, [.t 8, .t 10], .v (.bin .lss)⟩] [3, 4, 5, 11])
    (.cond (.t 11)
     .skip
     (.exit 0)))
   (.seq
    (.block 1
     (.reg [⟨some 14, none, [.t 3], .v (.mv)⟩,
       ⟨some 15, none, [.t 4], .v (.mv)⟩,
       ⟨some 16, none, [.t 5], .v (.mv)⟩,
       ⟨some 17, none, [.t 15, .t 16], .v (.iaddr 11)⟩,
       ⟨some 18, none, [.t 17], .v (.loadE 11 true)⟩,
       ⟨some 19, none, [.t 18], .callP 143⟩,
       ⟨some 20, none, [.c (.pv (.int .i64 1)), .t 19], .v (.bin .add)⟩,
       ⟨some 21, none, [.t 14, .t 20], .v (.mx)⟩,
       ⟨some 3, none, [.t 21], .v (.mv)⟩] [3, 4, 5]))
    (.reg [⟨some 12, none, [.t 5], .v (.mv)⟩,
      ⟨some 13, none, [.t 12, .c (.pv (.int .i64 1))], .v (.bin .add)⟩,
      ⟨some 5, none, [.t 13], .v (.mv)⟩] [3, 4, 5])))
def g143L0 : ACode := .loop [3, 4, 5] g143B0
theorem g143L0_eq {AP : Nat → Option AFunc} {st : St} : cl AP g143L0 st = after (cl AP g143L0) (cl AP g143B0 (norm (restrict [3, 4, 5] st))) := cl_loop
def g143 : AFunc := ⟨1, 23, [.t 2],
  (.seq
   (.reg [⟨some 1, none, [.t 0], .box 1 11⟩,
     ⟨some 2, none, [.c (.pv (.int .i64 0))], .v (.mv)⟩] [1])
   (.seq
    (.reg [⟨some 3, none, [.c (.pv (.int .i64 0))], .v (.mv)⟩] [1, 3])
    (.seq
     (.reg [⟨some 6, none, [.t 1], .loadL 1 0 11 true⟩,
       ⟨some 7, none, [.t 6], .callP 145⟩,
       ⟨some 4, none, [.t 7], .v (.mv)⟩] [3, 4])
     (.seq
      (.seq
       (.reg [⟨some 5, none, [.c (.pv (.int .i64 0))], .v (.mv)⟩] [3, 4, 5])
       (.block 0
        g143L0))
      (.seq
       (.reg [⟨some 22, none, [.t 3], .v (.mv)⟩,
         ⟨some 2, none, [.t 22], .v (.mv)⟩] [2])
       .ret))))), none, false⟩

/- typedholes/typedholesref7.deepType -/
def g144B0 : ACode :=
  (.seq
   (.seq
    (.reg [⟨some 16, none, [.t 4], .v (.mv)⟩,
      ⟨some 17, none, [.t 3], .v (.mv)⟩,
      ⟨some 18, none, [.t 17], .v (.len)⟩,
      ⟨some 19, none, [.t 16, .t 18], .v (.bin .lss)⟩] [3, 4, 19])
    (.cond (.t 19)
     .skip
     (.exit 0)))
   (.seq
    (.block 1
     (.seq
      (.reg [⟨some 22, none, [.t 3], .v (.mv)⟩,
        ⟨some 23, none, [.t 4], .v (.mv)⟩,
        ⟨some 24, none, [.t 22, .t 23], .v (.iaddr 11)⟩,
        ⟨some 25, none, [.t 24], .v (.loadE 11 true)⟩,
        ⟨some 26, none, [.t 25], .callP 144⟩] [3, 4, 26])
      (.cond (.t 26)
       (.seq
        (.reg [⟨some 2, none, [.c (.pv (.bool true))], .v (.mv)⟩] [2])
        .ret)
       .skip)))
    (.reg [⟨some 20, none, [.t 4], .v (.mv)⟩,
      ⟨some 21, none, [.t 20, .c (.pv (.int .i64 1))], .v (.bin .add)⟩,
      ⟨some 4, none, [.t 21], .v (.mv)⟩] [3, 4])))
def g144L0 : ACode := .loop [3, 4] g144B0
theorem g144L0_eq {AP : Nat → Option AFunc} {st : St} : cl AP g144L0 st = after (cl AP g144L0) (cl AP g144B0 (norm (restrict [3, 4] st))) := cl_loop
def g144 : AFunc := ⟨1, 27, [.t 2],
  (.seq
   (.reg [⟨some 1, none, [.t 0], .box 1 11⟩,
     ⟨some 2, none, [.c (.pv (.bool false))], .v (.mv)⟩] [1])
   (.seq
    (.seq
     (.reg [⟨some 5, none, [.t 1], .v (.faddr 0)⟩,
       ⟨some 6, none, [.t 5], .loadL 1 0 1 false⟩,
       ⟨some 7, none, [.t 6, .c (.pv (.int .i64 9))], .v (.bin .eql)⟩,
       ⟨some 8, none, [.t 7], .v (.mv)⟩,
       ⟨some 9, some (8, true), [.t 1], .v (.faddr 6)⟩,
       ⟨some 10, some (8, true), [.t 9], .loadL 1 6 5 true⟩,
       ⟨some 11, some (8, true), [.t 10], .callP 52⟩,
       ⟨some 12, some (8, true), [.t 11, .c (.pv (.int .i64 40))], .v (.bin .gtr)⟩,
       ⟨some 13, none, [.t 8, .t 12, .c (.pv (.bool false))], .v (.pick)⟩] [1, 13])
     (.cond (.t 13)
      (.seq
       (.reg [⟨some 2, none, [.c (.pv (.bool true))], .v (.mv)⟩] [2])
       .ret)
      .skip))
    (.seq
     (.reg [⟨some 14, none, [.t 1], .loadL 1 0 11 true⟩,
       ⟨some 15, none, [.t 14], .callP 145⟩,
       ⟨some 3, none, [.t 15], .v (.mv)⟩] [3])
     (.seq
      (.seq
       (.reg [⟨some 4, none, [.c (.pv (.int .i64 0))], .v (.mv)⟩] [3, 4])
       (.block 0
        g144L0))
      (.seq
       (.reg [⟨some 2, none, [.c (.pv (.bool false))], .v (.mv)⟩] [2])
       .ret))))), none, false⟩

/- typedholes/typedholesref4.Children -/
def g145B0 : ACode :=
  (.seq
   (.seq
    (.reg [⟨some 8, none, [.t 4], .v (.mv)⟩,
      ⟨some 9, none, [.t 1], .v (.faddr 5)⟩,
      ⟨some 10, none, [.t 9], .loadL 1 5 1 false⟩,
      ⟨some 11, none, [.t 10], .v (.len)⟩,
      ⟨some 12, none, [.t 8, .t 11], .v (.bin .lss)⟩] [1, 3, 4, 12])
    (.cond (.t 12)
     .skip
     (.exit 0)))
   (.seq
    (.block 1
     (.reg [⟨some 15, none, [.t 3], .v (.mv)⟩,
       ⟨some 16, none, [.t 1], .v (.faddr 5)⟩,
       ⟨some 17, none, [.t 16], .loadL 1 5 1 false⟩,
       ⟨some 18, none, [.t 4], .v (.mv)⟩,
       ⟨some 19, none, [.t 17, .t 18], .v (.iaddr 14)⟩,
       ⟨some 20, none, [.t 19], .v (.faddr 3)⟩,
       ⟨some 21, none, [.t 20], .loadS 11 true⟩,
       ⟨some 22, none, [.t 21], .v (.bslice 11)⟩,
       ⟨some 23, none, [.t 15, .t 22], .appendS 11 152 true⟩,
       ⟨some 3, none, [.t 23], .v (.mv)⟩] [1, 3, 4]))
    (.reg [⟨some 13, none, [.t 4], .v (.mv)⟩,
      ⟨some 14, none, [.t 13, .c (.pv (.int .i64 1))], .v (.bin .add)⟩,
      ⟨some 4, none, [.t 14], .v (.mv)⟩] [1, 3, 4])))
def g145L0 : ACode := .loop [1, 3, 4] g145B0
theorem g145L0_eq {AP : Nat → Option AFunc} {st : St} : cl AP g145L0 st = after (cl AP g145L0) (cl AP g145B0 (norm (restrict [1, 3, 4] st))) := cl_loop
def g145 : AFunc := ⟨1, 25, [.t 2],
  (.seq
   (.reg [⟨some 1, none, [.t 0], .box 1 11⟩,
     ⟨some 2, none, [.c (.clp [])], .v (.mv)⟩] [1])
   (.seq
    (.reg [⟨some 5, none, [.t 1], .v (.faddr 4)⟩,
      ⟨some 6, none, [.t 5], .loadL 1 4 1 false⟩,
      ⟨some 7, none, [.c (.clp []), .t 6], .appendS 11 152 true⟩,
      ⟨some 3, none, [.t 7], .v (.mv)⟩] [1, 3])
    (.seq
     (.seq
      (.reg [⟨some 4, none, [.c (.pv (.int .i64 0))], .v (.mv)⟩] [1, 3, 4])
      (.block 0
       g145L0))
     (.seq
      (.reg [⟨some 24, none, [.t 3], .v (.mv)⟩,
        ⟨some 2, none, [.t 24], .v (.mv)⟩] [2])
      .ret)))), none, true⟩

/- typedholes/typedholesref6.number -/
def g146B0 : ACode :=
  (.seq
   (.seq
    (.reg [⟨some 5, none, [.t 4], .v (.mv)⟩,
      ⟨some 6, none, [.t 0], .v (.mv)⟩,
      ⟨some 7, none, [.t 6], .v (.lenS)⟩,
      ⟨some 8, none, [.t 5, .t 7], .v (.bin .lss)⟩] [0, 3, 4, 8])
    (.cond (.t 8)
     .skip
     (.exit 0)))
   (.seq
    (.block 1
     (.reg [⟨some 11, none, [.t 3], .v (.mv)⟩,
       ⟨some 12, none, [.c (.pv (.int .i64 10)), .t 11], .v (.bin .mul)⟩,
       ⟨some 13, none, [.t 0], .v (.mv)⟩,
       ⟨some 14, none, [.t 4], .v (.mv)⟩,
       ⟨some 15, none, [.t 13, .t 14], .v (.index)⟩,
       ⟨some 16, none, [.t 15, .c (.pv (.int .u8 48))], .v (.bin .sub)⟩,
       ⟨some 17, none, [.t 16], .v (.conv .i64)⟩,
       ⟨some 18, none, [.t 12, .t 17], .v (.bin .add)⟩,
       ⟨some 3, none, [.t 18], .v (.mv)⟩] [0, 3, 4]))
    (.reg [⟨some 9, none, [.t 4], .v (.mv)⟩,
      ⟨some 10, none, [.t 9, .c (.pv (.int .i64 1))], .v (.bin .add)⟩,
      ⟨some 4, none, [.t 10], .v (.mv)⟩] [0, 3, 4])))
def g146L0 : ACode := .loop [0, 3, 4] g146B0
theorem g146L0_eq {AP : Nat → Option AFunc} {st : St} : cl AP g146L0 st = after (cl AP g146L0) (cl AP g146B0 (norm (restrict [0, 3, 4] st))) := cl_loop
def g146 : AFunc := ⟨1, 20, [.t 2],
  (.seq
   (.reg [⟨some 2, none, [.c (.pv (.int .i64 0))], .v (.mv)⟩] [0])
   (.seq
    (.reg [⟨some 3, none, [.c (.pv (.int .i64 0))], .v (.mv)⟩] [0, 3])
    (.seq
     (.seq
      (.reg [⟨some 4, none, [.c (.pv (.int .i64 0))], .v (.mv)⟩] [0, 3, 4])
      (.block 0
       g146L0))
     (.seq
      (.reg [⟨some 19, none, [.t 3], .v (.mv)⟩,
        ⟨some 2, none, [.t 19], .v (.mv)⟩] [2])
      .ret)))), none, false⟩

/- (*typedholes/typedholesmake.Tape).Variable -/
def g175 : AFunc := ⟨1, 8, [.t 2],
  (.seq
   (.reg [⟨some 2, none, [.c (.pv (.str []))], .v (.mv)⟩] [0])
   (.seq
    (.reg [⟨some 3, none, [.c (.pv (.str [120])), .c (.pv (.str [121])), .c (.pv (.str [122])), .c (.pv (.str [102])), .c (.pv (.str [103])), .c (.pv (.str [118, 49])), .c (.pv (.str [118, 50])), .c (.pv (.str [105, 100]))], .v (.bslice 1)⟩,
      ⟨some 4, none, [.t 0], .v (.mv)⟩,
      ⟨some 5, none, [.t 4, .c (.pv (.int .i64 8))], .callI 68 []⟩,
      ⟨some 6, none, [.t 3, .t 5], .v (.iaddr 1)⟩,
      ⟨some 7, none, [.t 6], .v (.loadE 1 false)⟩,
      ⟨some 2, none, [.t 7], .v (.mv)⟩] [2])
    .ret)), none, false⟩

/- typedholes/declare.Formed -/
def g185B0 : ACode :=
  (.seq
   (.reg [⟨some 41, none, [.t 40, .t 39], .v (.bin .lss)⟩] [0, 2, 38, 39, 40, 41])
   (.seq
    (.cond (.t 41)
     .skip
     (.exit 1))
    (.seq
     (.block 2
      (.seq
       (.reg [⟨some 42, none, [.t 38, .t 40], .v (.iaddr 5)⟩,
         ⟨some 43, none, [.t 42], .v (.loadE 5 true)⟩,
         ⟨some 10, none, [], .alloc 10 [.int .i64 0, .str [], .int .i64 0, .int .i64 0, .lst []]⟩,
         ⟨none, none, [.t 10, .t 43], .storeL 10 0 5⟩] [0, 2, 10, 38, 39, 40])
       (.seq
        (.reg [⟨some 44, none, [.t 0], .v (.mv)⟩,
          ⟨some 45, none, [.t 10], .loadL 10 0 5 true⟩,
          ⟨some 46, none, [.t 2], .v (.mv)⟩,
          ⟨some 47, none, [.t 44, .t 45, .t 46], .callP 185⟩,
          ⟨some 11, none, [.t 47], .v (.mv)⟩] [0, 2, 11, 38, 39, 40])
        (.seq
         (.reg [⟨some 48, none, [.t 11], .v (.mv)⟩,
           ⟨some 49, none, [.t 48, .c (.pv (.int .i64 0))], .v (.bin .neq)⟩] [0, 2, 11, 38, 39, 40, 49])
         (.cond (.t 49)
          (.seq
           (.reg [⟨some 50, none, [.t 11], .v (.mv)⟩,
             ⟨some 6, none, [.t 50], .v (.mv)⟩] [6])
           .ret)
          .skip)))))
     (.reg [⟨some 51, none, [.t 40, .c (.pv (.int .i64 1))], .v (.bin .add)⟩,
       ⟨some 40, none, [.t 51], .v (.mv)⟩] [0, 2, 38, 39, 40]))))
def g185L0 : ACode := .loop [0, 2, 38, 39, 40] g185B0
theorem g185L0_eq {AP : Nat → Option AFunc} {st : St} : cl AP g185L0 st = after (cl AP g185L0) (cl AP g185B0 (norm (restrict [0, 2, 38, 39, 40] st))) := cl_loop
def g185 : AFunc := ⟨3, 52, [.t 6],
  (.seq
   (.reg [⟨some 4, none, [.t 1], .box 4 5⟩,
     ⟨some 6, none, [.c (.pv (.int .i64 0))], .v (.mv)⟩] [0, 2, 4])
   (.seq
    (.seq
     (.reg [⟨some 12, none, [.t 4], .v (.faddr 0)⟩,
       ⟨some 13, none, [.t 12], .loadL 4 0 1 false⟩] [0, 2, 4, 13])
     (.block 0
      (.seq
       (.reg [⟨some 15, none, [.t 13, .c (.pv (.int .i64 5))], .v (.bin .eql)⟩,
         ⟨some 14, none, [.t 15], .v (.mv)⟩] [0, 2, 4, 13, 14])
       (.cond (.t 14)
        (.seq
         (.reg [⟨some 16, none, [.t 2], .v (.mv)⟩,
           ⟨some 17, none, [.t 4], .v (.faddr 1)⟩,
           ⟨some 18, none, [.t 17], .loadL 4 1 1 false⟩,
           ⟨some 19, none, [.t 16, .t 18], .callP 214⟩,
           ⟨some 20, none, [.t 19], .v (.un .not)⟩] [0, 2, 4, 20])
         (.cond (.t 20)
          (.seq
           (.reg [⟨some 6, none, [.c (.pv (.int .i64 7))], .v (.mv)⟩] [6])
           .ret)
          .skip))
        (.seq
         (.reg [⟨some 22, none, [.t 13, .c (.pv (.int .i64 4))], .v (.bin .eql)⟩,
           ⟨some 21, none, [.t 22], .v (.mv)⟩] [0, 2, 4, 21])
         (.cond (.t 21)
          (.seq
           (.reg [⟨some 24, none, [.t 0], .v (.mv)⟩,
             ⟨some 25, none, [.t 4], .v (.faddr 1)⟩,
             ⟨some 26, none, [.t 25], .loadL 4 1 1 false⟩,
             ⟨some 27, none, [.t 24, .t 26], .callP 215⟩,
             ⟨some 23, none, [.t 27], .v (.mv)⟩,
             ⟨some 28, none, [.t 23], .v (.ext 0)⟩,
             ⟨some 29, none, [.t 23], .v (.ext 1)⟩,
             ⟨some 7, none, [.t 28], .v (.mv)⟩,
             ⟨some 8, none, [.t 29], .v (.mv)⟩] [0, 2, 4, 7, 8])
           (.seq
            (.seq
             (.reg [⟨some 30, none, [.t 8], .v (.mv)⟩,
               ⟨some 31, none, [.t 30], .v (.un .not)⟩] [0, 2, 4, 7, 31])
             (.cond (.t 31)
              (.seq
               (.reg [⟨some 6, none, [.c (.pv (.int .i64 7))], .v (.mv)⟩] [6])
               .ret)
              .skip))
            (.seq
             (.reg [⟨some 32, none, [.t 7], .v (.mv)⟩,
               ⟨some 33, none, [.t 4], .v (.faddr 4)⟩,
               ⟨some 34, none, [.t 33], .loadL 4 4 1 false⟩,
               ⟨some 35, none, [.t 34], .v (.len)⟩,
               ⟨some 36, none, [.t 32, .t 35], .v (.bin .neq)⟩] [0, 2, 4, 36])
             (.cond (.t 36)
              (.seq
               (.reg [⟨some 6, none, [.c (.pv (.int .i64 8))], .v (.mv)⟩] [6])
               .ret)
              .skip))))
          .skip))))))
    (.seq
     (.seq
      (.reg [⟨some 37, none, [.t 4], .v (.faddr 4)⟩,
        ⟨some 38, none, [.t 37], .loadL 4 4 1 false⟩,
        ⟨some 39, none, [.t 38], .v (.len)⟩,
        ⟨some 40, none, [.c (.pv (.int .i64 0))], .v (.mv)⟩] [0, 2, 38, 39, 40])
      (.block 1
       g185L0))
     (.seq
      (.reg [⟨some 6, none, [.c (.pv (.int .i64 0))], .v (.mv)⟩] [6])
      .ret)))), none, false⟩

/- typedholes/declare.Find -/
def g190B1 : ACode :=
  (.seq
   (.reg [⟨some 22, none, [.t 21, .t 20], .v (.bin .lss)⟩] [1, 7, 11, 12, 13, 19, 20, 21, 22])
   (.seq
    (.cond (.t 22)
     .skip
     (.exit 2))
    (.seq
     (.block 3
      (.seq
       (.reg [⟨some 23, none, [.t 21], .v (.mv)⟩,
         ⟨some 24, none, [.t 19, .t 21], .v (.iaddr 3)⟩,
         ⟨some 25, none, [.t 24], .v (.loadE 3 true)⟩,
         ⟨some 10, none, [], .alloc 10 [.int .i64 0, .str [], .lst []]⟩,
         ⟨some 9, none, [.t 23], .v (.mv)⟩,
         ⟨none, none, [.t 10, .t 25], .storeL 10 0 3⟩] [1, 7, 9, 10, 11, 12, 13, 19, 20, 21])
       (.seq
        (.reg [⟨some 26, none, [.t 10], .v (.faddr 1)⟩,
          ⟨some 27, none, [.t 26], .loadL 10 1 1 false⟩,
          ⟨some 28, none, [.t 1], .v (.mv)⟩,
          ⟨some 29, none, [.t 27, .t 28], .v (.bin .eql)⟩] [1, 7, 9, 11, 12, 13, 19, 20, 21, 29])
        (.cond (.t 29)
         (.seq
          (.reg [⟨some 30, none, [.t 7], .v (.mv)⟩,
            ⟨some 31, none, [.t 9], .v (.mv)⟩,
            ⟨some 4, none, [.t 30], .v (.mv)⟩,
            ⟨some 5, none, [.t 31], .v (.mv)⟩,
            ⟨some 6, none, [.c (.pv (.bool true))], .v (.mv)⟩] [4, 5, 6])
          .ret)
         .skip))))
     (.reg [⟨some 32, none, [.t 21, .c (.pv (.int .i64 1))], .v (.bin .add)⟩,
       ⟨some 21, none, [.t 32], .v (.mv)⟩] [1, 7, 11, 12, 13, 19, 20, 21]))))
def g190L1 : ACode := .loop [1, 7, 11, 12, 13, 19, 20, 21] g190B1
theorem g190L1_eq {AP : Nat → Option AFunc} {st : St} : cl AP g190L1 st = after (cl AP g190L1) (cl AP g190B1 (norm (restrict [1, 7, 11, 12, 13, 19, 20, 21] st))) := cl_loop
def g190B0 : ACode :=
  (.seq
   (.reg [⟨some 14, none, [.t 13, .t 12], .v (.bin .lss)⟩] [1, 11, 12, 13, 14])
   (.seq
    (.cond (.t 14)
     .skip
     (.exit 0))
    (.seq
     (.block 1
      (.seq
       (.reg [⟨some 15, none, [.t 13], .v (.mv)⟩,
         ⟨some 16, none, [.t 11, .t 13], .v (.iaddr 4)⟩,
         ⟨some 17, none, [.t 16], .v (.loadE 4 true)⟩,
         ⟨some 8, none, [], .alloc 8 [.int .i64 0, .str [], .lst [], .lst []]⟩,
         ⟨some 7, none, [.t 15], .v (.mv)⟩,
         ⟨none, none, [.t 8, .t 17], .storeL 8 0 4⟩] [1, 7, 8, 11, 12, 13])
       (.seq
        (.reg [⟨some 18, none, [.t 8], .v (.faddr 3)⟩,
          ⟨some 19, none, [.t 18], .loadL 8 3 1 false⟩,
          ⟨some 20, none, [.t 19], .v (.len)⟩,
          ⟨some 21, none, [.c (.pv (.int .i64 0))], .v (.mv)⟩] [1, 7, 11, 12, 13, 19, 20, 21])
        (.block 2
         g190L1))))
     (.reg [⟨some 33, none, [.t 13, .c (.pv (.int .i64 1))], .v (.bin .add)⟩,
       ⟨some 13, none, [.t 33], .v (.mv)⟩] [1, 11, 12, 13]))))
def g190L0 : ACode := .loop [1, 11, 12, 13] g190B0
theorem g190L0_eq {AP : Nat → Option AFunc} {st : St} : cl AP g190L0 st = after (cl AP g190L0) (cl AP g190B0 (norm (restrict [1, 11, 12, 13] st))) := cl_loop
def g190 : AFunc := ⟨2, 34, [.t 4, .t 5, .t 6],
  (.seq
   (.reg [⟨some 4, none, [.c (.pv (.int .i64 0))], .v (.mv)⟩,
     ⟨some 5, none, [.c (.pv (.int .i64 0))], .v (.mv)⟩,
     ⟨some 6, none, [.c (.pv (.bool false))], .v (.mv)⟩] [0, 1])
   (.seq
    (.seq
     (.reg [⟨some 11, none, [.t 0], .v (.mv)⟩,
       ⟨some 12, none, [.t 11], .v (.len)⟩,
       ⟨some 13, none, [.c (.pv (.int .i64 0))], .v (.mv)⟩] [1, 11, 12, 13])
     (.block 0
      g190L0))
    (.seq
     (.reg [⟨some 4, none, [.c (.pv (.int .i64 0))], .v (.mv)⟩,
       ⟨some 5, none, [.c (.pv (.int .i64 0))], .v (.mv)⟩,
       ⟨some 6, none, [.c (.pv (.bool false))], .v (.mv)⟩] [4, 5, 6])
     .ret))), none, false⟩

/- slices.Contains[[]string,string] -/
def g214 : AFunc := ⟨2, 9, [.t 4],
  (.seq
   (.reg [⟨some 4, none, [.c (.pv (.bool false))], .v (.mv)⟩] [0, 1])
   (.seq
    (.reg [⟨some 5, none, [.t 0], .v (.mv)⟩,
      ⟨some 6, none, [.t 1], .v (.mv)⟩,
      ⟨some 7, none, [.t 5, .t 6], .callP 223⟩,
      ⟨some 8, none, [.t 7, .c (.pv (.int .i64 0))], .v (.bin .geq)⟩,
      ⟨some 4, none, [.t 8], .v (.mv)⟩] [4])
    .ret)), none, false⟩

/- typedholes/declare.arity -/
def g215B0 : ACode :=
  (.seq
   (.reg [⟨some 16, none, [.t 15, .t 14], .v (.bin .lss)⟩] [1, 13, 14, 15, 16])
   (.seq
    (.cond (.t 16)
     .skip
     (.exit 1))
    (.seq
     (.block 2
      (.seq
       (.reg [⟨some 17, none, [.t 13, .t 15], .v (.iaddr 4)⟩,
         ⟨some 18, none, [.t 17], .v (.loadE 4 true)⟩,
         ⟨some 7, none, [], .alloc 7 [.int .i64 0, .str [], .lst [], .lst []]⟩,
         ⟨none, none, [.t 7, .t 18], .storeL 7 0 4⟩] [1, 7, 13, 14, 15])
       (.seq
        (.reg [⟨some 19, none, [.t 7], .v (.faddr 1)⟩,
          ⟨some 20, none, [.t 19], .loadL 7 1 1 false⟩,
          ⟨some 21, none, [.t 1], .v (.mv)⟩,
          ⟨some 22, none, [.t 20, .t 21], .v (.bin .eql)⟩] [1, 7, 13, 14, 15, 22])
        (.cond (.t 22)
         (.seq
          (.reg [⟨some 23, none, [.t 7], .v (.faddr 2)⟩,
            ⟨some 24, none, [.t 23], .loadL 7 2 1 false⟩,
            ⟨some 25, none, [.t 24], .v (.len)⟩,
            ⟨some 4, none, [.t 25], .v (.mv)⟩,
            ⟨some 5, none, [.c (.pv (.bool true))], .v (.mv)⟩] [4, 5])
          .ret)
         .skip))))
     (.reg [⟨some 26, none, [.t 15, .c (.pv (.int .i64 1))], .v (.bin .add)⟩,
       ⟨some 15, none, [.t 26], .v (.mv)⟩] [1, 13, 14, 15]))))
def g215L0 : ACode := .loop [1, 13, 14, 15] g215B0
theorem g215L0_eq {AP : Nat → Option AFunc} {st : St} : cl AP g215L0 st = after (cl AP g215L0) (cl AP g215B0 (norm (restrict [1, 13, 14, 15] st))) := cl_loop
def g215 : AFunc := ⟨2, 27, [.t 4, .t 5],
  (.seq
   (.reg [⟨some 4, none, [.c (.pv (.int .i64 0))], .v (.mv)⟩,
     ⟨some 5, none, [.c (.pv (.bool false))], .v (.mv)⟩] [0, 1])
   (.seq
    (.seq
     (.reg [⟨some 8, none, [.t 1], .v (.mv)⟩] [0, 1, 8])
     (.block 0
      (.seq
       (.reg [⟨some 10, none, [.t 8, .c (.pv (.str [73, 110, 116]))], .v (.bin .eql)⟩,
         ⟨some 9, none, [.t 10], .v (.mv)⟩] [0, 1, 8, 9])
       (.cond (.t 9)
        (.seq
         (.reg [⟨some 4, none, [.c (.pv (.int .i64 0))], .v (.mv)⟩,
           ⟨some 5, none, [.c (.pv (.bool true))], .v (.mv)⟩] [4, 5])
         .ret)
        (.seq
         (.reg [⟨some 12, none, [.t 8, .c (.pv (.str [45, 62]))], .v (.bin .eql)⟩,
           ⟨some 11, none, [.t 12], .v (.mv)⟩] [0, 1, 11])
         (.cond (.t 11)
          (.seq
           (.reg [⟨some 4, none, [.c (.pv (.int .i64 2))], .v (.mv)⟩,
             ⟨some 5, none, [.c (.pv (.bool true))], .v (.mv)⟩] [4, 5])
           .ret)
          .skip))))))
    (.seq
     (.seq
      (.reg [⟨some 13, none, [.t 0], .v (.mv)⟩,
        ⟨some 14, none, [.t 13], .v (.len)⟩,
        ⟨some 15, none, [.c (.pv (.int .i64 0))], .v (.mv)⟩] [1, 13, 14, 15])
      (.block 1
       g215L0))
     (.seq
      (.reg [⟨some 4, none, [.c (.pv (.int .i64 0))], .v (.mv)⟩,
        ⟨some 5, none, [.c (.pv (.bool false))], .v (.mv)⟩] [4, 5])
      .ret)))), none, false⟩

/- slices.Index[[]string,string] -/
def g223B0 : ACode :=
  (.seq
   (.reg [⟨some 9, none, [.t 8, .t 7], .v (.bin .lss)⟩] [0, 1, 7, 8, 9])
   (.seq
    (.cond (.t 9)
     .skip
     (.exit 0))
    (.seq
     (.block 1
      (.seq
       (.reg [⟨some 10, none, [.t 8], .v (.mv)⟩,
         ⟨some 5, none, [.t 10], .v (.mv)⟩] [0, 1, 5, 7, 8])
       (.seq
        (.reg [⟨some 11, none, [.t 1], .v (.mv)⟩,
          ⟨some 12, none, [.t 0], .v (.mv)⟩,
          ⟨some 13, none, [.t 5], .v (.mv)⟩,
          ⟨some 14, none, [.t 12, .t 13], .v (.iaddr 1)⟩,
          ⟨some 15, none, [.t 14], .v (.loadE 1 false)⟩,
          ⟨some 16, none, [.t 11, .t 15], .v (.bin .eql)⟩] [0, 1, 5, 7, 8, 16])
        (.cond (.t 16)
         (.seq
          (.reg [⟨some 17, none, [.t 5], .v (.mv)⟩,
            ⟨some 4, none, [.t 17], .v (.mv)⟩] [4])
          .ret)
         .skip))))
     (.reg [⟨some 18, none, [.t 8, .c (.pv (.int .i64 1))], .v (.bin .add)⟩,
       ⟨some 8, none, [.t 18], .v (.mv)⟩] [0, 1, 7, 8]))))
def g223L0 : ACode := .loop [0, 1, 7, 8] g223B0
theorem g223L0_eq {AP : Nat → Option AFunc} {st : St} : cl AP g223L0 st = after (cl AP g223L0) (cl AP g223B0 (norm (restrict [0, 1, 7, 8] st))) := cl_loop
def g223 : AFunc := ⟨2, 19, [.t 4],
  (.seq
   (.reg [⟨some 4, none, [.c (.pv (.int .i64 0))], .v (.mv)⟩] [0, 1])
   (.seq
    (.seq
     (.reg [⟨some 6, none, [.t 0], .v (.mv)⟩,
       ⟨some 7, none, [.t 6], .v (.len)⟩,
       ⟨some 8, none, [.c (.pv (.int .i64 0))], .v (.mv)⟩] [0, 1, 7, 8])
     (.block 0
      g223L0))
    (.seq
     (.reg [⟨some 4, none, [.c (.pv (.int .i64 (-1)))], .v (.mv)⟩] [4])
     .ret))), none, false⟩

/- (*typedholes/typedholesmake.Tape).Raw -/
def g247B1 : ACode :=
  (.seq
   (.seq
    (.reg [⟨some 171, none, [.t 17], .v (.mv)⟩,
      ⟨some 172, none, [.t 13], .v (.faddr 3)⟩,
      ⟨some 173, none, [.t 172], .loadL 13 3 1 false⟩,
      ⟨some 174, none, [.t 15], .v (.mv)⟩,
      ⟨some 175, none, [.t 173, .t 174], .v (.iaddr 3)⟩,
      ⟨some 176, none, [.t 175], .v (.faddr 2)⟩,
      ⟨some 177, none, [.t 176], .v (.loadE 1 false)⟩,
      ⟨some 178, none, [.t 177], .v (.len)⟩,
      ⟨some 179, none, [.t 171, .t 178], .v (.bin .lss)⟩] [0, 1, 2, 6, 13, 14, 15, 16, 17, 179])
    (.cond (.t 179)
     .skip
     (.exit 3)))
   (.seq
    (.block 4
     (.reg [⟨some 182, none, [.t 16], .v (.faddr 2)⟩,
       ⟨some 183, none, [.t 182], .loadL 16 2 1 false⟩,
       ⟨some 184, none, [.t 0], .v (.mv)⟩,
       ⟨some 185, none, [.t 184], .callI 175 []⟩,
       ⟨some 186, none, [.t 185], .v (.bslice 1)⟩,
       ⟨some 187, none, [.t 183, .t 186], .append 1 16⟩,
       ⟨some 188, none, [.t 16], .v (.faddr 2)⟩,
       ⟨none, none, [.t 188, .t 187], .storeL 16 2 1⟩] [0, 1, 2, 6, 13, 14, 15, 16, 17]))
    (.reg [⟨some 180, none, [.t 17], .v (.mv)⟩,
      ⟨some 181, none, [.t 180, .c (.pv (.int .i64 1))], .v (.bin .add)⟩,
      ⟨some 17, none, [.t 181], .v (.mv)⟩] [0, 1, 2, 6, 13, 14, 15, 16, 17])))
def g247L1 : ACode := .loop [0, 1, 2, 6, 13, 14, 15, 16, 17] g247B1
theorem g247L1_eq {AP : Nat → Option AFunc} {st : St} : cl AP g247L1 st = after (cl AP g247L1) (cl AP g247B1 (norm (restrict [0, 1, 2, 6, 13, 14, 15, 16, 17] st))) := cl_loop
def g247B0 : ACode :=
  (.seq
   (.seq
    (.reg [⟨some 157, none, [.t 15], .v (.mv)⟩,
      ⟨some 158, none, [.t 13], .v (.faddr 3)⟩,
      ⟨some 159, none, [.t 158], .loadL 13 3 1 false⟩,
      ⟨some 160, none, [.t 159], .v (.len)⟩,
      ⟨some 161, none, [.t 157, .t 160], .v (.bin .lss)⟩] [0, 1, 2, 6, 13, 14, 15, 161])
    (.cond (.t 161)
     .skip
     (.exit 1)))
   (.seq
    (.block 2
     (.seq
      (.reg [⟨some 164, none, [.t 13], .v (.faddr 3)⟩,
        ⟨some 165, none, [.t 164], .loadL 13 3 1 false⟩,
        ⟨some 166, none, [.t 15], .v (.mv)⟩,
        ⟨some 167, none, [.t 165, .t 166], .v (.iaddr 3)⟩,
        ⟨some 168, none, [.t 167], .v (.faddr 1)⟩,
        ⟨some 169, none, [.t 168], .v (.loadE 1 false)⟩,
        ⟨some 170, none, [.t 169], .v (.build [.int .i64 0, .str [], .lst [], .int .i64 0, .int .i64 0, .str [], .int .i64 0, .lst [], .lst [], .int .i64 0, .str [], .int .i64 0, .int .i64 0, .lst []] [(1, 1)])⟩,
        ⟨some 16, none, [], .alloc 16 [.int .i64 0, .str [], .lst [], .int .i64 0, .int .i64 0, .str [], .int .i64 0, .lst [], .lst [], .int .i64 0, .str [], .int .i64 0, .int .i64 0, .lst []]⟩,
        ⟨none, none, [.t 16, .t 170], .storeL 16 0 14⟩] [0, 1, 2, 6, 13, 14, 15, 16])
      (.seq
       (.seq
        (.reg [⟨some 17, none, [.c (.pv (.int .i64 0))], .v (.mv)⟩] [0, 1, 2, 6, 13, 14, 15, 16, 17])
        (.block 3
         g247L1))
       (.seq
        (.reg [⟨some 189, none, [.t 0], .v (.mv)⟩,
          ⟨some 190, none, [.t 1], .v (.mv)⟩,
          ⟨some 191, none, [.t 2], .v (.mv)⟩,
          ⟨some 192, none, [.t 191, .c (.pv (.int .i64 1))], .v (.bin .sub)⟩,
          ⟨some 193, none, [.t 189, .t 190, .t 192], .callI 247 []⟩,
          ⟨some 194, none, [.t 16], .v (.faddr 3)⟩,
          ⟨none, none, [.t 194, .t 193], .storeL 16 3 11⟩] [0, 1, 2, 6, 13, 14, 15, 16])
        (.reg [⟨some 195, none, [.t 14], .v (.faddr 5)⟩,
          ⟨some 196, none, [.t 195], .loadL 14 5 1 false⟩,
          ⟨some 197, none, [.t 16], .loadL 16 0 14 true⟩,
          ⟨some 198, none, [.t 197], .v (.bslice 14)⟩,
          ⟨some 199, none, [.t 196, .t 198], .append 14 200⟩,
          ⟨some 200, none, [.t 14], .v (.faddr 5)⟩,
          ⟨none, none, [.t 200, .t 199], .storeL 14 5 1⟩] [0, 1, 2, 6, 13, 14, 15])))))
    (.reg [⟨some 162, none, [.t 15], .v (.mv)⟩,
      ⟨some 163, none, [.t 162, .c (.pv (.int .i64 1))], .v (.bin .add)⟩,
      ⟨some 15, none, [.t 163], .v (.mv)⟩] [0, 1, 2, 6, 13, 14, 15])))
def g247L0 : ACode := .loop [0, 1, 2, 6, 13, 14, 15] g247B0
theorem g247L0_eq {AP : Nat → Option AFunc} {st : St} : cl AP g247L0 st = after (cl AP g247L0) (cl AP g247B0 (norm (restrict [0, 1, 2, 6, 13, 14, 15] st))) := cl_loop
def g247 : AFunc := ⟨3, 202, [.c 6 11 true],
  (.seq
   (.reg [⟨some 6, none, [], .alloc 6 [.int .i64 0, .int .i64 0, .str [], .int .i64 0, .lst [], .lst [], .int .i64 0, .str [], .int .i64 0, .int .i64 0, .lst []]⟩] [0, 1, 2, 6])
   (.seq
    (.reg [⟨some 18, none, [.t 0], .v (.mv)⟩,
      ⟨some 19, none, [.t 18, .c (.pv (.int .i64 14))], .callI 68 []⟩,
      ⟨some 7, none, [.t 19], .v (.mv)⟩] [0, 1, 2, 6, 7])
    (.seq
     (.seq
      (.reg [⟨some 20, none, [.t 2], .v (.mv)⟩,
        ⟨some 21, none, [.t 20, .c (.pv (.int .i64 1))], .v (.bin .lss)⟩] [0, 1, 2, 6, 7, 21])
      (.cond (.t 21)
       (.reg [⟨some 22, none, [.t 7], .v (.mv)⟩,
         ⟨some 23, none, [.t 22, .c (.pv (.int .i64 5))], .v (.bin .rem)⟩,
         ⟨some 7, none, [.t 23], .v (.mv)⟩] [0, 1, 2, 6, 7])
       .skip))
     (.seq
      (.seq
       (.reg [⟨some 24, none, [.t 7], .v (.mv)⟩] [0, 1, 2, 6, 24])
       (.block 0
        (.seq
         (.seq
          (.reg [⟨some 26, none, [.t 24, .c (.pv (.int .i64 0))], .v (.bin .eql)⟩,
            ⟨some 25, none, [.t 26], .v (.mv)⟩] [0, 1, 2, 6, 24, 25])
          (.cond (.t 25)
           .skip
           (.reg [⟨some 27, none, [.t 24, .c (.pv (.int .i64 1))], .v (.bin .eql)⟩,
             ⟨some 25, none, [.t 27], .v (.mv)⟩] [0, 1, 2, 6, 24, 25])))
         (.cond (.t 25)
          (.seq
           (.reg [⟨some 28, none, [.t 0], .v (.mv)⟩,
             ⟨some 29, none, [.t 28], .callI 175 []⟩,
             ⟨some 30, none, [.c (.pv (.int .i64 1)), .t 29], .v (.build [.int .i64 0, .int .i64 0, .str [], .int .i64 0, .lst [], .lst [], .int .i64 0, .str [], .int .i64 0, .int .i64 0, .lst []] [(0, 1), (2, 1)])⟩,
             ⟨none, none, [.t 6, .t 30], .storeL 6 0 11⟩] [6])
           .ret)
          (.seq
           (.reg [⟨some 32, none, [.t 24, .c (.pv (.int .i64 2))], .v (.bin .eql)⟩,
             ⟨some 31, none, [.t 32], .v (.mv)⟩] [0, 1, 2, 6, 24, 31])
           (.cond (.t 31)
            (.seq
             (.reg [⟨some 33, none, [.t 0], .v (.mv)⟩,
               ⟨some 34, none, [.t 33, .c (.pv (.int .i64 4))], .callI 68 []⟩,
               ⟨some 35, none, [.c (.pv (.int .i64 3)), .t 34], .v (.build [.int .i64 0, .int .i64 0, .str [], .int .i64 0, .lst [], .lst [], .int .i64 0, .str [], .int .i64 0, .int .i64 0, .lst []] [(0, 1), (3, 1)])⟩,
               ⟨none, none, [.t 6, .t 35], .storeL 6 0 11⟩] [6])
             .ret)
            (.seq
             (.reg [⟨some 37, none, [.t 24, .c (.pv (.int .i64 3))], .v (.bin .eql)⟩,
               ⟨some 36, none, [.t 37], .v (.mv)⟩] [0, 1, 2, 6, 24, 36])
             (.cond (.t 36)
              (.seq
               (.seq
                (.reg [⟨some 38, none, [.t 1], .v (.mv)⟩,
                  ⟨some 39, none, [.t 38], .v (.len)⟩,
                  ⟨some 40, none, [.t 39, .c (.pv (.int .i64 0))], .v (.bin .gtr)⟩] [0, 1, 6, 40])
                (.cond (.t 40)
                 (.seq
                  (.reg [⟨some 41, none, [.t 1], .v (.mv)⟩,
                    ⟨some 42, none, [.t 0], .v (.mv)⟩,
                    ⟨some 43, none, [.t 1], .v (.mv)⟩,
                    ⟨some 44, none, [.t 43], .v (.len)⟩,
                    ⟨some 45, none, [.t 42, .t 44], .callI 68 []⟩,
                    ⟨some 46, none, [.t 41, .t 45], .v (.iaddr 4)⟩,
                    ⟨some 47, none, [.t 46], .loadS 4 true⟩,
                    ⟨some 8, none, [], .alloc 8 [.int .i64 0, .str [], .lst [], .lst []]⟩,
                    ⟨none, none, [.t 8, .t 47], .storeL 8 0 4⟩] [0, 6, 8])
                  (.seq
                   (.reg [⟨some 48, none, [.t 8], .v (.faddr 3)⟩,
                     ⟨some 49, none, [.t 48], .loadL 8 3 1 false⟩,
                     ⟨some 50, none, [.t 0], .v (.mv)⟩,
                     ⟨some 51, none, [.t 8], .v (.faddr 3)⟩,
                     ⟨some 52, none, [.t 51], .loadL 8 3 1 false⟩,
                     ⟨some 53, none, [.t 52], .v (.len)⟩,
                     ⟨some 54, none, [.t 50, .t 53], .callI 68 []⟩,
                     ⟨some 55, none, [.t 49, .t 54], .v (.iaddr 3)⟩,
                     ⟨some 56, none, [.t 55], .v (.faddr 1)⟩,
                     ⟨some 57, none, [.t 56], .v (.loadE 1 false)⟩,
                     ⟨some 58, none, [.c (.pv (.int .i64 2)), .t 57], .v (.build [.int .i64 0, .int .i64 0, .str [], .int .i64 0, .lst [], .lst [], .int .i64 0, .str [], .int .i64 0, .int .i64 0, .lst []] [(0, 1), (2, 1)])⟩,
                     ⟨none, none, [.t 6, .t 58], .storeL 6 0 11⟩] [6])
                   .ret))
                 .skip))
               (.seq
                (.reg [⟨some 59, none, [.c (.pv (.int .i64 2)), .c (.pv (.str [71, 111, 110, 101]))], .v (.build [.int .i64 0, .int .i64 0, .str [], .int .i64 0, .lst [], .lst [], .int .i64 0, .str [], .int .i64 0, .int .i64 0, .lst []] [(0, 1), (2, 1)])⟩,
                  ⟨none, none, [.t 6, .t 59], .storeL 6 0 11⟩] [6])
                .ret))
              (.seq
               (.reg [⟨some 61, none, [.t 24, .c (.pv (.int .i64 4))], .v (.bin .eql)⟩,
                 ⟨some 60, none, [.t 61], .v (.mv)⟩] [0, 1, 2, 6, 24, 60])
               (.cond (.t 60)
                (.seq
                 (.reg [⟨some 62, none, [.c (.pv (.int .i64 10))], .v (.build [.int .i64 0, .int .i64 0, .str [], .int .i64 0, .lst [], .lst [], .int .i64 0, .str [], .int .i64 0, .int .i64 0, .lst []] [(0, 1)])⟩,
                   ⟨none, none, [.t 6, .t 62], .storeL 6 0 11⟩] [6])
                 .ret)
                (.seq
                 (.seq
                  (.reg [⟨some 64, none, [.t 24, .c (.pv (.int .i64 5))], .v (.bin .eql)⟩,
                    ⟨some 63, none, [.t 64], .v (.mv)⟩] [0, 1, 2, 6, 24, 63])
                  (.cond (.t 63)
                   .skip
                   (.reg [⟨some 65, none, [.t 24, .c (.pv (.int .i64 6))], .v (.bin .eql)⟩,
                     ⟨some 63, none, [.t 65], .v (.mv)⟩] [0, 1, 2, 6, 24, 63])))
                 (.cond (.t 63)
                  (.seq
                   (.reg [⟨some 66, none, [.t 0], .v (.mv)⟩,
                     ⟨some 67, none, [.t 66], .callI 175 []⟩,
                     ⟨some 68, none, [.t 0], .v (.mv)⟩,
                     ⟨some 69, none, [.t 1], .v (.mv)⟩,
                     ⟨some 70, none, [.t 2], .v (.mv)⟩,
                     ⟨some 71, none, [.t 70, .c (.pv (.int .i64 1))], .v (.bin .sub)⟩,
                     ⟨some 72, none, [.t 68, .t 69, .t 71], .callI 247 []⟩,
                     ⟨some 73, none, [.t 72], .v (.bslice 11)⟩,
                     ⟨some 74, none, [.c (.pv (.int .i64 4)), .t 67, .t 73], .v (.build [.int .i64 0, .int .i64 0, .str [], .int .i64 0, .lst [], .lst [], .int .i64 0, .str [], .int .i64 0, .int .i64 0, .lst []] [(0, 1), (2, 1), (4, 1)])⟩,
                     ⟨none, none, [.t 6, .t 74], .storeL 6 0 11⟩] [6])
                   .ret)
                  (.seq
                   (.seq
                    (.reg [⟨some 76, none, [.t 24, .c (.pv (.int .i64 7))], .v (.bin .eql)⟩,
                      ⟨some 75, none, [.t 76], .v (.mv)⟩] [0, 1, 2, 6, 24, 75])
                    (.cond (.t 75)
                     .skip
                     (.seq
                      (.reg [⟨some 77, none, [.t 24, .c (.pv (.int .i64 8))], .v (.bin .eql)⟩,
                        ⟨some 75, none, [.t 77], .v (.mv)⟩] [0, 1, 2, 6, 24, 75])
                      (.cond (.t 75)
                       .skip
                       (.reg [⟨some 78, none, [.t 24, .c (.pv (.int .i64 9))], .v (.bin .eql)⟩,
                         ⟨some 75, none, [.t 78], .v (.mv)⟩] [0, 1, 2, 6, 24, 75])))))
                   (.cond (.t 75)
                    (.seq
                     (.reg [⟨some 79, none, [.t 0], .v (.mv)⟩,
                       ⟨some 80, none, [.t 1], .v (.mv)⟩,
                       ⟨some 81, none, [.t 2], .v (.mv)⟩,
                       ⟨some 82, none, [.t 81, .c (.pv (.int .i64 1))], .v (.bin .sub)⟩,
                       ⟨some 83, none, [.t 79, .t 80, .t 82], .callI 247 []⟩,
                       ⟨some 9, none, [], .alloc 9 [.int .i64 0, .int .i64 0, .str [], .int .i64 0, .lst [], .lst [], .int .i64 0, .str [], .int .i64 0, .int .i64 0, .lst []]⟩,
                       ⟨none, none, [.t 9, .t 83], .storeL 9 0 11⟩] [0, 1, 2, 6, 9])
                     (.seq
                      (.reg [⟨some 84, none, [.t 9], .loadL 9 0 11 true⟩,
                        ⟨some 85, none, [.t 0], .v (.mv)⟩,
                        ⟨some 86, none, [.t 1], .v (.mv)⟩,
                        ⟨some 87, none, [.t 2], .v (.mv)⟩,
                        ⟨some 88, none, [.t 87, .c (.pv (.int .i64 1))], .v (.bin .sub)⟩,
                        ⟨some 89, none, [.t 85, .t 86, .t 88], .callI 247 []⟩,
                        ⟨some 90, none, [.t 84, .t 89], .v (.bslice 11)⟩,
                        ⟨some 91, none, [.c (.pv (.int .i64 5)), .t 90], .v (.build [.int .i64 0, .int .i64 0, .str [], .int .i64 0, .lst [], .lst [], .int .i64 0, .str [], .int .i64 0, .int .i64 0, .lst []] [(0, 1), (4, 1)])⟩,
                        ⟨none, none, [.t 6, .t 91], .storeL 6 0 11⟩] [6])
                      .ret))
                    (.seq
                     (.reg [⟨some 93, none, [.t 24, .c (.pv (.int .i64 10))], .v (.bin .eql)⟩,
                       ⟨some 92, none, [.t 93], .v (.mv)⟩] [0, 1, 2, 6, 24, 92])
                     (.cond (.t 92)
                      (.seq
                       (.reg [⟨some 94, none, [.t 0], .v (.mv)⟩,
                         ⟨some 95, none, [.t 94, .c (.pv (.int .i64 2))], .callI 68 []⟩,
                         ⟨some 96, none, [.c (.pv (.int .i64 6)), .t 95], .v (.bin .add)⟩,
                         ⟨some 10, none, [.t 96], .v (.mv)⟩] [0, 1, 2, 6, 10])
                       (.seq
                        (.reg [⟨some 97, none, [.t 0], .v (.mv)⟩,
                          ⟨some 98, none, [.t 97], .callI 175 []⟩,
                          ⟨some 11, none, [.t 98], .v (.mv)⟩] [0, 1, 2, 6, 10, 11])
                        (.seq
                         (.reg [⟨some 99, none, [.t 0], .v (.mv)⟩,
                           ⟨some 100, none, [.t 1], .v (.mv)⟩,
                           ⟨some 101, none, [.t 2], .v (.mv)⟩,
                           ⟨some 102, none, [.t 101, .c (.pv (.int .i64 1))], .v (.bin .sub)⟩,
                           ⟨some 103, none, [.t 99, .t 100, .t 102], .callI 247 []⟩,
                           ⟨some 12, none, [], .alloc 12 [.int .i64 0, .int .i64 0, .str [], .int .i64 0, .lst [], .lst [], .int .i64 0, .str [], .int .i64 0, .int .i64 0, .lst []]⟩,
                           ⟨none, none, [.t 12, .t 103], .storeL 12 0 11⟩] [0, 1, 2, 6, 10, 11, 12])
                         (.seq
                          (.reg [⟨some 104, none, [.t 10], .v (.mv)⟩,
                            ⟨some 105, none, [.t 11], .v (.mv)⟩,
                            ⟨some 106, none, [.t 12], .loadL 12 0 11 true⟩,
                            ⟨some 107, none, [.t 0], .v (.mv)⟩,
                            ⟨some 108, none, [.t 1], .v (.mv)⟩,
                            ⟨some 109, none, [.t 2], .v (.mv)⟩,
                            ⟨some 110, none, [.t 109, .c (.pv (.int .i64 1))], .v (.bin .sub)⟩,
                            ⟨some 111, none, [.t 107, .t 108, .t 110], .callI 247 []⟩,
                            ⟨some 112, none, [.t 106, .t 111], .v (.bslice 11)⟩,
                            ⟨some 113, none, [.t 104, .t 105, .t 112], .v (.build [.int .i64 0, .int .i64 0, .str [], .int .i64 0, .lst [], .lst [], .int .i64 0, .str [], .int .i64 0, .int .i64 0, .lst []] [(0, 1), (2, 1), (4, 1)])⟩,
                            ⟨none, none, [.t 6, .t 113], .storeL 6 0 11⟩] [6])
                          .ret))))
                      (.seq
                       (.reg [⟨some 115, none, [.t 24, .c (.pv (.int .i64 11))], .v (.bin .eql)⟩,
                         ⟨some 114, none, [.t 115], .v (.mv)⟩] [0, 1, 2, 6, 24, 114])
                       (.cond (.t 114)
                        (.seq
                         (.reg [⟨some 116, none, [.t 0], .v (.mv)⟩,
                           ⟨some 117, none, [.t 1], .v (.mv)⟩,
                           ⟨some 118, none, [.t 2], .v (.mv)⟩,
                           ⟨some 119, none, [.t 118, .c (.pv (.int .i64 1))], .v (.bin .sub)⟩,
                           ⟨some 120, none, [.t 116, .t 117, .t 119], .callI 247 []⟩,
                           ⟨some 121, none, [.t 120], .v (.bslice 11)⟩,
                           ⟨some 122, none, [.t 0], .v (.mv)⟩,
                           ⟨some 123, none, [.t 1], .v (.mv)⟩,
                           ⟨some 124, none, [.t 122, .t 123, .c (.clp []), .c (.pv (.int .i64 2))], .callI 27 []⟩,
                           ⟨some 125, none, [.c (.pv (.int .i64 9)), .t 121, .t 124], .v (.build [.int .i64 0, .int .i64 0, .str [], .int .i64 0, .lst [], .lst [], .int .i64 0, .str [], .int .i64 0, .int .i64 0, .lst []] [(0, 1), (4, 1), (6, 5)])⟩,
                           ⟨none, none, [.t 6, .t 125], .storeL 6 0 11⟩] [6])
                         .ret)
                        (.seq
                         (.reg [⟨some 127, none, [.t 24, .c (.pv (.int .i64 12))], .v (.bin .eql)⟩,
                           ⟨some 126, none, [.t 127], .v (.mv)⟩] [0, 1, 2, 6, 126])
                         (.cond (.t 126)
                          (.seq
                           (.reg [⟨some 128, none, [.t 0], .v (.mv)⟩,
                             ⟨some 129, none, [.t 1], .v (.mv)⟩,
                             ⟨some 130, none, [.t 2], .v (.mv)⟩,
                             ⟨some 131, none, [.t 130, .c (.pv (.int .i64 1))], .v (.bin .sub)⟩,
                             ⟨some 132, none, [.t 128, .t 129, .t 131], .callI 247 []⟩,
                             ⟨some 133, none, [.t 132], .v (.bslice 11)⟩,
                             ⟨some 134, none, [.c (.pv (.int .i64 11)), .t 133], .v (.build [.int .i64 0, .int .i64 0, .str [], .int .i64 0, .lst [], .lst [], .int .i64 0, .str [], .int .i64 0, .int .i64 0, .lst []] [(0, 1), (4, 1)])⟩,
                             ⟨none, none, [.t 6, .t 134], .storeL 6 0 11⟩] [6])
                           .ret)
                          .skip))))))))))))))))))))
      (.seq
       (.seq
        (.reg [⟨some 135, none, [.t 1], .v (.mv)⟩,
          ⟨some 136, none, [.t 135], .v (.len)⟩,
          ⟨some 137, none, [.t 136, .c (.pv (.int .i64 0))], .v (.bin .eql)⟩] [0, 1, 2, 6, 137])
        (.cond (.t 137)
         (.seq
          (.reg [⟨some 138, none, [.t 0], .v (.mv)⟩,
            ⟨some 139, none, [.t 1], .v (.mv)⟩,
            ⟨some 140, none, [.t 2], .v (.mv)⟩,
            ⟨some 141, none, [.t 140, .c (.pv (.int .i64 1))], .v (.bin .sub)⟩,
            ⟨some 142, none, [.t 138, .t 139, .t 141], .callI 247 []⟩,
            ⟨none, none, [.t 6, .t 142], .storeL 6 0 11⟩] [6])
          .ret)
         .skip))
       (.seq
        (.reg [⟨some 143, none, [.t 1], .v (.mv)⟩,
          ⟨some 144, none, [.t 0], .v (.mv)⟩,
          ⟨some 145, none, [.t 1], .v (.mv)⟩,
          ⟨some 146, none, [.t 145], .v (.len)⟩,
          ⟨some 147, none, [.t 144, .t 146], .callI 68 []⟩,
          ⟨some 148, none, [.t 143, .t 147], .v (.iaddr 4)⟩,
          ⟨some 149, none, [.t 148], .loadS 4 true⟩,
          ⟨some 13, none, [], .alloc 13 [.int .i64 0, .str [], .lst [], .lst []]⟩,
          ⟨none, none, [.t 13, .t 149], .storeL 13 0 4⟩] [0, 1, 2, 6, 13])
        (.seq
         (.reg [⟨some 150, none, [.t 0], .v (.mv)⟩,
           ⟨some 151, none, [.t 1], .v (.mv)⟩,
           ⟨some 152, none, [.t 2], .v (.mv)⟩,
           ⟨some 153, none, [.t 152, .c (.pv (.int .i64 1))], .v (.bin .sub)⟩,
           ⟨some 154, none, [.t 150, .t 151, .t 153], .callI 247 []⟩,
           ⟨some 155, none, [.t 154], .v (.bslice 11)⟩,
           ⟨some 156, none, [.c (.pv (.int .i64 8)), .t 155], .v (.build [.int .i64 0, .int .i64 0, .str [], .int .i64 0, .lst [], .lst [], .int .i64 0, .str [], .int .i64 0, .int .i64 0, .lst []] [(0, 1), (4, 1)])⟩,
           ⟨some 14, none, [], .alloc 14 [.int .i64 0, .int .i64 0, .str [], .int .i64 0, .lst [], .lst [], .int .i64 0, .str [], .int .i64 0, .int .i64 0, .lst []]⟩,
           ⟨none, none, [.t 14, .t 156], .storeL 14 0 11⟩] [0, 1, 2, 6, 13, 14])
         (.seq
          (.seq
           (.reg [⟨some 15, none, [.c (.pv (.int .i64 0))], .v (.mv)⟩] [0, 1, 2, 6, 13, 14, 15])
           (.block 1
            g247L0))
          (.seq
           (.reg [⟨some 201, none, [.t 14], .loadL 14 0 11 true⟩,
             ⟨none, none, [.t 6, .t 201], .storeL 6 0 11⟩] [6])
           .ret))))))))), none, false⟩

/- typedholes/typedholesref7.ParseExpr -/
def g250 : AFunc := ⟨1, 58, [.c 2 11 true, .c 3 2 true],
  (.seq
   (.reg [⟨some 2, none, [], .alloc 2 [.int .i64 0, .int .i64 0, .str [], .int .i64 0, .lst [], .lst [], .int .i64 0, .str [], .int .i64 0, .int .i64 0, .lst []]⟩,
     ⟨some 3, none, [], .alloc 3 [.int .i64 0, .int .i64 0]⟩] [0, 2, 3])
   (.seq
    (.reg [⟨some 11, none, [.t 0], .v (.mv)⟩,
      ⟨some 12, none, [.t 11], .callP 118⟩,
      ⟨some 10, none, [.t 12], .v (.mv)⟩,
      ⟨some 13, none, [.t 10], .v (.ext 0)⟩,
      ⟨some 14, none, [.t 10], .v (.ext 1)⟩,
      ⟨some 5, none, [], .alloc 5 [.int .i64 0, .int .i64 0]⟩,
      ⟨some 4, none, [.t 13], .v (.mv)⟩,
      ⟨none, none, [.t 5, .t 14], .storeL 5 0 2⟩] [2, 3, 4, 5])
    (.seq
     (.seq
      (.reg [⟨some 15, none, [.t 5], .v (.faddr 0)⟩,
        ⟨some 16, none, [.t 15], .loadL 5 0 1 false⟩,
        ⟨some 17, none, [.t 16, .c (.pv (.int .i64 0))], .v (.bin .neq)⟩] [2, 3, 4, 5, 17])
      (.cond (.t 17)
       (.seq
        (.reg [⟨some 18, none, [], .v (.build [.int .i64 0, .int .i64 0, .str [], .int .i64 0, .lst [], .lst [], .int .i64 0, .str [], .int .i64 0, .int .i64 0, .lst []] [])⟩,
          ⟨some 19, none, [.t 5], .loadL 5 0 2 true⟩,
          ⟨none, none, [.t 2, .t 18], .storeL 2 0 11⟩,
          ⟨none, none, [.t 3, .t 19], .storeL 3 0 2⟩] [2, 3])
        .ret)
       .skip))
     (.seq
      (.reg [⟨some 20, none, [.t 4], .v (.mv)⟩,
        ⟨some 21, none, [.t 20, .c (.pv (.int .i64 0))], .callI 119 []⟩,
        ⟨some 6, none, [.t 21], .v (.mv)⟩] [2, 3, 4, 5, 6])
      (.seq
       (.reg [⟨some 22, none, [.t 6], .v (.mv)⟩,
         ⟨some 23, none, [.t 22], .callI 134 []⟩,
         ⟨some 7, none, [], .alloc 7 [.int .i64 0, .int .i64 0, .str [], .int .i64 0, .lst [], .lst [], .int .i64 0, .str [], .int .i64 0, .int .i64 0, .lst []]⟩,
         ⟨none, none, [.t 7, .t 23], .storeL 7 0 11⟩] [2, 3, 4, 5, 6, 7])
       (.seq
        (.seq
         (.reg [⟨some 24, none, [.t 6], .v (.mv)⟩,
           ⟨some 25, none, [.t 24], .v (.nilchk)⟩,
           ⟨some 26, none, [.t 25], .v (.faddr 1)⟩,
           ⟨some 27, none, [.t 26], .loadS 1 false⟩,
           ⟨some 28, none, [.t 4], .v (.mv)⟩,
           ⟨some 29, none, [.t 28], .v (.len)⟩,
           ⟨some 30, none, [.t 27, .t 29], .v (.bin .lss)⟩] [2, 3, 5, 6, 7, 30])
         (.cond (.t 30)
          (.reg [⟨some 31, none, [.t 6], .v (.mv)⟩,
            ⟨some 32, none, [.t 31], .callI 139 []⟩] [2, 3, 5, 6, 7])
          .skip))
        (.seq
         (.seq
          (.reg [⟨some 33, none, [.t 6], .v (.mv)⟩,
            ⟨some 34, none, [.t 33], .v (.nilchk)⟩,
            ⟨some 35, none, [.t 34], .v (.faddr 2)⟩,
            ⟨some 36, none, [.t 35], .loadS 1 false⟩] [2, 3, 5, 6, 7, 36])
          (.cond (.t 36)
           (.seq
            (.reg [⟨some 37, none, [], .v (.build [.int .i64 0, .int .i64 0, .str [], .int .i64 0, .lst [], .lst [], .int .i64 0, .str [], .int .i64 0, .int .i64 0, .lst []] [])⟩,
              ⟨some 38, none, [.t 6], .v (.mv)⟩,
              ⟨some 39, none, [.t 38], .v (.nilchk)⟩,
              ⟨some 40, none, [.t 39], .v (.faddr 3)⟩,
              ⟨some 41, none, [.t 40], .loadS 1 false⟩,
              ⟨some 42, none, [.c (.pv (.int .i64 3)), .t 41], .v (.build [.int .i64 0, .int .i64 0] [(0, 1), (1, 1)])⟩,
              ⟨none, none, [.t 2, .t 37], .storeL 2 0 11⟩,
              ⟨none, none, [.t 3, .t 42], .storeL 3 0 2⟩] [2, 3])
            .ret)
           .skip))
         (.seq
          (.seq
           (.reg [⟨some 43, none, [.t 7], .loadL 7 0 11 true⟩,
             ⟨some 44, none, [.t 43], .callP 135⟩] [2, 3, 5, 7, 44])
           (.cond (.t 44)
            (.seq
             (.reg [⟨some 45, none, [], .v (.build [.int .i64 0, .int .i64 0, .str [], .int .i64 0, .lst [], .lst [], .int .i64 0, .str [], .int .i64 0, .int .i64 0, .lst []] [])⟩,
               ⟨some 46, none, [.c (.pv (.int .i64 4))], .v (.build [.int .i64 0, .int .i64 0] [(0, 1)])⟩,
               ⟨none, none, [.t 2, .t 45], .storeL 2 0 11⟩,
               ⟨none, none, [.t 3, .t 46], .storeL 3 0 2⟩] [2, 3])
             .ret)
            .skip))
          (.seq
           (.seq
            (.reg [⟨some 48, none, [.t 7], .loadL 7 0 11 true⟩,
              ⟨some 49, none, [.t 48], .callP 136⟩,
              ⟨some 47, none, [.t 49], .v (.mv)⟩,
              ⟨some 50, none, [.t 47], .v (.ext 0)⟩,
              ⟨some 51, none, [.t 47], .v (.ext 1)⟩,
              ⟨some 8, none, [.t 50], .v (.mv)⟩,
              ⟨some 9, none, [.t 51], .v (.mv)⟩] [2, 3, 5, 7, 8, 9])
            (.seq
             (.reg [⟨some 52, none, [.t 9], .v (.mv)⟩] [2, 3, 5, 7, 8, 52])
             (.cond (.t 52)
              (.seq
               (.reg [⟨some 53, none, [], .v (.build [.int .i64 0, .int .i64 0, .str [], .int .i64 0, .lst [], .lst [], .int .i64 0, .str [], .int .i64 0, .int .i64 0, .lst []] [])⟩,
                 ⟨some 54, none, [.t 8], .v (.mv)⟩,
                 ⟨some 55, none, [.c (.pv (.int .i64 5)), .t 54], .v (.build [.int .i64 0, .int .i64 0] [(0, 1), (1, 1)])⟩,
                 ⟨none, none, [.t 2, .t 53], .storeL 2 0 11⟩,
                 ⟨none, none, [.t 3, .t 55], .storeL 3 0 2⟩] [2, 3])
               .ret)
              .skip)))
           (.seq
            (.reg [⟨some 56, none, [.t 7], .loadL 7 0 11 true⟩,
              ⟨some 57, none, [.t 5], .loadL 5 0 2 true⟩,
              ⟨none, none, [.t 2, .t 56], .storeL 2 0 11⟩,
              ⟨none, none, [.t 3, .t 57], .storeL 3 0 2⟩] [2, 3])
            .ret)))))))))), none, false⟩

/- typedholes/typedholesref10.has -/
def g364B0 : ACode :=
  (.seq
   (.seq
    (.reg [⟨some 6, none, [.t 5], .v (.mv)⟩,
      ⟨some 7, none, [.t 0], .v (.mv)⟩,
      ⟨some 8, none, [.t 7], .v (.len)⟩,
      ⟨some 9, none, [.t 6, .t 8], .v (.bin .lss)⟩] [0, 1, 5, 9])
    (.cond (.t 9)
     .skip
     (.exit 0)))
   (.seq
    (.block 1
     (.seq
      (.reg [⟨some 12, none, [.t 0], .v (.mv)⟩,
        ⟨some 13, none, [.t 5], .v (.mv)⟩,
        ⟨some 14, none, [.t 12, .t 13], .v (.iaddr 1)⟩,
        ⟨some 15, none, [.t 14], .v (.loadE 1 false)⟩,
        ⟨some 16, none, [.t 1], .v (.mv)⟩,
        ⟨some 17, none, [.t 15, .t 16], .v (.bin .eql)⟩] [0, 1, 5, 17])
      (.cond (.t 17)
       (.seq
        (.reg [⟨some 4, none, [.c (.pv (.bool true))], .v (.mv)⟩] [4])
        .ret)
       .skip)))
    (.reg [⟨some 10, none, [.t 5], .v (.mv)⟩,
      ⟨some 11, none, [.t 10, .c (.pv (.int .i64 1))], .v (.bin .add)⟩,
      ⟨some 5, none, [.t 11], .v (.mv)⟩] [0, 1, 5])))
def g364L0 : ACode := .loop [0, 1, 5] g364B0
theorem g364L0_eq {AP : Nat → Option AFunc} {st : St} : cl AP g364L0 st = after (cl AP g364L0) (cl AP g364B0 (norm (restrict [0, 1, 5] st))) := cl_loop
def g364 : AFunc := ⟨2, 18, [.t 4],
  (.seq
   (.reg [⟨some 4, none, [.c (.pv (.bool false))], .v (.mv)⟩] [0, 1])
   (.seq
    (.seq
     (.reg [⟨some 5, none, [.c (.pv (.int .i64 0))], .v (.mv)⟩] [0, 1, 5])
     (.block 0
      g364L0))
    (.seq
     (.reg [⟨some 4, none, [.c (.pv (.bool false))], .v (.mv)⟩] [4])
     .ret))), none, false⟩

/- typedholes/typedholesref10.Bound -/
def g380 : AFunc := ⟨2, 37, [.t 4],
  (.seq
   (.reg [⟨some 2, none, [.t 0], .box 2 11⟩,
     ⟨some 4, none, [.c (.clp [])], .v (.mv)⟩] [1, 2])
   (.seq
    (.block 0
     (.seq
      (.seq
       (.reg [⟨some 6, none, [.t 2], .v (.faddr 0)⟩,
         ⟨some 7, none, [.t 6], .loadL 2 0 1 false⟩,
         ⟨some 8, none, [.t 7, .c (.pv (.int .i64 4))], .v (.bin .eql)⟩,
         ⟨some 5, none, [.t 8], .v (.mv)⟩] [1, 2, 5])
       (.cond (.t 5)
        .skip
        (.seq
         (.reg [⟨some 9, none, [.t 2], .v (.faddr 0)⟩,
           ⟨some 10, none, [.t 9], .loadL 2 0 1 false⟩,
           ⟨some 11, none, [.t 10, .c (.pv (.int .i64 7))], .v (.bin .eql)⟩,
           ⟨some 5, none, [.t 11], .v (.mv)⟩] [1, 2, 5])
         (.cond (.t 5)
          .skip
          (.reg [⟨some 12, none, [.t 2], .v (.faddr 0)⟩,
            ⟨some 13, none, [.t 12], .loadL 2 0 1 false⟩,
            ⟨some 14, none, [.t 13, .c (.pv (.int .i64 6))], .v (.bin .eql)⟩,
            ⟨some 15, none, [.t 14], .v (.mv)⟩,
            ⟨some 16, some (15, true), [.t 1], .v (.mv)⟩,
            ⟨some 17, some (15, true), [.t 16, .c (.pv (.int .i64 1))], .v (.bin .eql)⟩,
            ⟨some 18, none, [.t 15, .t 17, .c (.pv (.bool false))], .v (.pick)⟩,
            ⟨some 5, none, [.t 18], .v (.mv)⟩] [1, 2, 5])))))
      (.cond (.t 5)
       (.seq
        (.reg [⟨some 19, none, [.t 2], .v (.faddr 2)⟩,
          ⟨some 20, none, [.t 19], .loadL 2 2 1 false⟩,
          ⟨some 21, none, [.t 20], .v (.bslice 1)⟩,
          ⟨some 4, none, [.t 21], .v (.mv)⟩] [4])
        .ret)
       (.seq
        (.reg [⟨some 23, none, [.t 2], .v (.faddr 0)⟩,
          ⟨some 24, none, [.t 23], .loadL 2 0 1 false⟩,
          ⟨some 25, none, [.t 24, .c (.pv (.int .i64 8))], .v (.bin .eql)⟩,
          ⟨some 26, none, [.t 25], .v (.mv)⟩,
          ⟨some 27, some (26, true), [.t 1], .v (.mv)⟩,
          ⟨some 28, some (26, true), [.t 27, .c (.pv (.int .i64 0))], .v (.bin .gtr)⟩,
          ⟨some 29, none, [.t 26, .t 28, .c (.pv (.bool false))], .v (.pick)⟩,
          ⟨some 22, none, [.t 29], .v (.mv)⟩] [1, 2, 22])
        (.cond (.t 22)
         (.seq
          (.reg [⟨some 30, none, [.t 2], .v (.faddr 5)⟩,
            ⟨some 31, none, [.t 30], .loadL 2 5 1 false⟩,
            ⟨some 32, none, [.t 1], .v (.mv)⟩,
            ⟨some 33, none, [.t 32, .c (.pv (.int .i64 1))], .v (.bin .sub)⟩,
            ⟨some 34, none, [.t 31, .t 33], .v (.iaddr 14)⟩,
            ⟨some 35, none, [.t 34], .v (.faddr 2)⟩,
            ⟨some 36, none, [.t 35], .v (.loadE 1 false)⟩,
            ⟨some 4, none, [.t 36], .v (.mv)⟩] [4])
          .ret)
         .skip)))))
    (.seq
     (.reg [⟨some 4, none, [.c (.clp [])], .v (.mv)⟩] [4])
     .ret))), none, false⟩

/- typedholes/typedholeslaw10.ScopeSound -/
def g400B0 : ACode :=
  (.seq
   (.seq
    (.reg [⟨some 48, none, [.t 13], .v (.mv)⟩,
      ⟨some 49, none, [.t 3], .v (.mv)⟩,
      ⟨some 50, none, [.t 49, .c (.pv (.int .i64 6))], .callP 26⟩,
      ⟨some 51, none, [.t 48, .t 50], .v (.bin .lss)⟩] [3, 9, 10, 11, 12, 13, 51])
    (.cond (.t 51)
     .skip
     (.exit 0)))
   (.seq
    (.block 1
     (.seq
      (.reg [⟨some 54, none, [.t 12], .loadL 12 0 11 true⟩,
        ⟨some 55, none, [.t 54], .callP 145⟩,
        ⟨some 14, none, [.t 55], .v (.mv)⟩] [3, 9, 10, 11, 12, 13, 14])
      (.seq
       (.seq
        (.reg [⟨some 56, none, [.t 14], .v (.mv)⟩,
          ⟨some 57, none, [.t 56], .v (.len)⟩,
          ⟨some 58, none, [.t 57, .c (.pv (.int .i64 0))], .v (.bin .eql)⟩] [3, 9, 10, 11, 12, 13, 14, 58])
        (.cond (.t 58)
         (.exit 0)
         .skip))
       (.seq
        (.reg [⟨some 59, none, [.t 3], .v (.mv)⟩,
          ⟨some 60, none, [.t 13], .v (.mv)⟩,
          ⟨some 61, none, [.c (.pv (.int .i64 3)), .t 60], .v (.bin .mul)⟩,
          ⟨some 62, none, [.t 59, .t 61], .v (.bin .add)⟩,
          ⟨some 63, none, [.t 14], .v (.mv)⟩,
          ⟨some 64, none, [.t 63], .v (.len)⟩,
          ⟨some 65, none, [.t 62, .t 64], .callP 26⟩,
          ⟨some 15, none, [.t 65], .v (.mv)⟩] [3, 9, 10, 11, 12, 13, 14, 15])
        (.reg [⟨some 66, none, [.t 11], .v (.mv)⟩,
          ⟨some 67, none, [.t 15], .v (.mv)⟩,
          ⟨some 68, none, [.t 67], .v (.bslice 1)⟩,
          ⟨some 69, none, [.t 66, .t 68], .append 1 8⟩,
          ⟨some 70, none, [.t 14], .v (.mv)⟩,
          ⟨some 71, none, [.t 15], .v (.mv)⟩,
          ⟨some 72, none, [.t 70, .t 71], .v (.iaddr 11)⟩,
          ⟨some 73, none, [.t 72], .v (.loadE 11 true)⟩,
          ⟨some 11, none, [.t 69], .v (.mv)⟩,
          ⟨none, none, [.t 12, .t 73], .storeL 12 0 11⟩] [3, 9, 10, 11, 12, 13])))))
    (.reg [⟨some 52, none, [.t 13], .v (.mv)⟩,
      ⟨some 53, none, [.t 52, .c (.pv (.int .i64 1))], .v (.bin .add)⟩,
      ⟨some 13, none, [.t 53], .v (.mv)⟩] [3, 9, 10, 11, 12, 13])))
def g400L0 : ACode := .loop [3, 9, 10, 11, 12, 13] g400B0
theorem g400L0_eq {AP : Nat → Option AFunc} {st : St} : cl AP g400L0 st = after (cl AP g400L0) (cl AP g400B0 (norm (restrict [3, 9, 10, 11, 12, 13] st))) := cl_loop
def g400B1 : ACode :=
  (.seq
   (.seq
    (.reg [⟨some 78, none, [.t 17], .v (.mv)⟩,
      ⟨some 79, none, [.t 9], .v (.faddr 1)⟩,
      ⟨some 80, none, [.t 79], .loadL 9 1 1 false⟩,
      ⟨some 81, none, [.t 80], .v (.len)⟩,
      ⟨some 82, none, [.t 78, .t 81], .v (.bin .lss)⟩] [9, 12, 16, 17, 82])
    (.cond (.t 82)
     .skip
     (.exit 2)))
   (.seq
    (.block 3
     (.reg [⟨some 85, none, [.t 16], .v (.mv)⟩,
       ⟨some 86, none, [.t 9], .v (.faddr 1)⟩,
       ⟨some 87, none, [.t 86], .loadL 9 1 1 false⟩,
       ⟨some 88, none, [.t 17], .v (.mv)⟩,
       ⟨some 89, none, [.t 87, .t 88], .v (.iaddr 20)⟩,
       ⟨some 90, none, [.t 89], .v (.faddr 2)⟩,
       ⟨some 91, none, [.t 90], .v (.loadE 1 false)⟩,
       ⟨some 92, none, [.t 91], .v (.bslice 1)⟩,
       ⟨some 93, none, [.t 85, .t 92], .append 1 16⟩,
       ⟨some 16, none, [.t 93], .v (.mv)⟩] [9, 12, 16, 17]))
    (.reg [⟨some 83, none, [.t 17], .v (.mv)⟩,
      ⟨some 84, none, [.t 83, .c (.pv (.int .i64 1))], .v (.bin .add)⟩,
      ⟨some 17, none, [.t 84], .v (.mv)⟩] [9, 12, 16, 17])))
def g400L1 : ACode := .loop [9, 12, 16, 17] g400B1
theorem g400L1_eq {AP : Nat → Option AFunc} {st : St} : cl AP g400L1 st = after (cl AP g400L1) (cl AP g400B1 (norm (restrict [9, 12, 16, 17] st))) := cl_loop
def g400 : AFunc := ⟨4, 101, [.t 8],
  (.seq
   (.reg [⟨some 8, none, [.c (.pv (.bool false))], .v (.mv)⟩] [0, 1, 2, 3])
   (.seq
    (.seq
     (.reg [⟨some 18, none, [], .callP 401⟩,
       ⟨some 19, none, [.t 18], .v (.un .not)⟩] [0, 1, 2, 3, 19])
     (.cond (.t 19)
      (.seq
       (.reg [⟨some 8, none, [.c (.pv (.bool false))], .v (.mv)⟩] [8])
       .ret)
      .skip))
    (.seq
     (.seq
      (.reg [⟨some 20, none, [.t 1], .v (.mv)⟩,
        ⟨some 21, none, [.t 20], .callP 15⟩,
        ⟨some 22, none, [.t 21], .v (.un .not)⟩] [0, 1, 2, 3, 22])
      (.cond (.t 22)
       (.seq
        (.reg [⟨some 8, none, [.c (.pv (.bool true))], .v (.mv)⟩] [8])
        .ret)
       .skip))
     (.seq
      (.reg [⟨some 23, none, [.t 0], .v (.mv)⟩,
        ⟨some 24, none, [.t 1], .v (.mv)⟩,
        ⟨some 25, none, [.t 2], .v (.mv)⟩,
        ⟨some 26, none, [.t 23, .t 24, .t 25], .callP 310⟩,
        ⟨some 9, none, [], .alloc 9 [.lst [], .lst []]⟩,
        ⟨none, none, [.t 9, .t 26], .storeL 9 0 2⟩] [3, 9])
      (.seq
       (.seq
        (.reg [⟨some 27, none, [.t 9], .loadL 9 0 2 true⟩,
          ⟨some 28, none, [.t 27], .callP 403⟩,
          ⟨some 29, none, [.t 28], .v (.field 0 1 false)⟩,
          ⟨some 30, none, [.t 29, .c (.pv (.int .i64 0))], .v (.bin .neq)⟩,
          ⟨some 31, none, [.t 30], .v (.mv)⟩,
          ⟨some 32, some (31, false), [.t 9], .v (.faddr 1)⟩,
          ⟨some 33, some (31, false), [.t 32], .loadL 9 1 1 false⟩,
          ⟨some 34, some (31, false), [.t 33], .v (.len)⟩,
          ⟨some 35, some (31, false), [.t 34, .c (.pv (.int .i64 0))], .v (.bin .eql)⟩,
          ⟨some 36, none, [.t 31, .c (.pv (.bool true)), .t 35], .v (.pick)⟩] [3, 9, 36])
        (.cond (.t 36)
         (.seq
          (.reg [⟨some 8, none, [.c (.pv (.bool true))], .v (.mv)⟩] [8])
          .ret)
         .skip))
       (.seq
        (.reg [⟨some 37, none, [.t 9], .v (.faddr 1)⟩,
          ⟨some 38, none, [.t 37], .loadL 9 1 1 false⟩,
          ⟨some 39, none, [.t 3], .v (.mv)⟩,
          ⟨some 40, none, [.t 9], .v (.faddr 1)⟩,
          ⟨some 41, none, [.t 40], .loadL 9 1 1 false⟩,
          ⟨some 42, none, [.t 41], .v (.len)⟩,
          ⟨some 43, none, [.t 39, .t 42], .callP 26⟩,
          ⟨some 44, none, [.t 38, .t 43], .v (.iaddr 20)⟩,
          ⟨some 45, none, [.t 44], .v (.loadE 20 true)⟩,
          ⟨some 10, none, [], .alloc 10 [.int .i64 0, .bool false, .str [], .bool false, .int .i64 0, .str [], .int .i64 0, .int .i64 0, .lst [], .int .i64 0, .int .i64 0, .str [], .int .i64 0, .lst [], .lst [], .int .i64 0, .str [], .int .i64 0, .int .i64 0, .lst []]⟩,
          ⟨none, none, [.t 10, .t 45], .storeL 10 0 20⟩] [3, 9, 10])
        (.seq
         (.reg [⟨some 11, none, [.c (.clp [])], .v (.mv)⟩] [3, 9, 10, 11])
         (.seq
          (.reg [⟨some 46, none, [.t 10], .v (.faddr 9)⟩,
            ⟨some 47, none, [.t 46], .loadL 10 9 11 true⟩,
            ⟨some 12, none, [], .alloc 12 [.int .i64 0, .int .i64 0, .str [], .int .i64 0, .lst [], .lst [], .int .i64 0, .str [], .int .i64 0, .int .i64 0, .lst []]⟩,
            ⟨none, none, [.t 12, .t 47], .storeL 12 0 11⟩] [3, 9, 10, 11, 12])
          (.seq
           (.seq
            (.reg [⟨some 13, none, [.c (.pv (.int .i64 0))], .v (.mv)⟩] [3, 9, 10, 11, 12, 13])
            (.block 0
             g400L0))
           (.seq
            (.reg [⟨some 74, none, [.t 10], .v (.faddr 9)⟩,
              ⟨some 75, none, [.t 74], .loadL 10 9 11 true⟩,
              ⟨some 76, none, [.t 11], .v (.mv)⟩,
              ⟨some 77, none, [.t 75, .t 76], .callI 404 []⟩,
              ⟨some 16, none, [.t 77], .v (.mv)⟩] [9, 12, 16])
            (.seq
             (.seq
              (.reg [⟨some 17, none, [.c (.pv (.int .i64 0))], .v (.mv)⟩] [9, 12, 16, 17])
              (.block 2
               g400L1))
             (.seq
              (.reg [⟨some 94, none, [.t 9], .v (.faddr 0)⟩,
                ⟨some 95, none, [.t 94], .loadL 9 0 1 false⟩,
                ⟨some 96, none, [.t 16], .v (.mv)⟩,
                ⟨some 97, none, [.t 12], .loadL 12 0 11 true⟩,
                ⟨some 98, none, [.t 95, .t 96, .t 97], .callP 405⟩,
                ⟨some 99, none, [.t 98], .v (.field 0 1 false)⟩,
                ⟨some 100, none, [.t 99, .c (.pv (.int .i64 0))], .v (.bin .eql)⟩,
                ⟨some 8, none, [.t 100], .v (.mv)⟩] [8])
              .ret)))))))))))), none, false⟩

/- typedholes/typedholeslaw10.first -/
def g401 : AFunc := ⟨0, 40, [.t 0],
  (.seq
   (.reg [⟨some 0, none, [.c (.pv (.bool false))], .v (.mv)⟩] [])
   (.seq
    (.reg [⟨some 5, none, [.c (.pv (.str [92, 120, 46, 32, 108, 101, 116, 32, 121, 32, 61, 32, 63, 32, 105, 110, 32, 63]))], .callP 406⟩,
      ⟨some 1, none, [], .alloc 1 [.int .i64 0, .int .i64 0, .str [], .int .i64 0, .lst [], .lst [], .int .i64 0, .str [], .int .i64 0, .int .i64 0, .lst []]⟩,
      ⟨none, none, [.t 1, .t 5], .storeL 1 0 11⟩] [1])
    (.seq
     (.reg [⟨some 6, none, [.c (.pv (.int .i64 2))], .callP 32⟩,
       ⟨some 2, none, [.t 6], .v (.mv)⟩] [1, 2])
     (.seq
      (.reg [⟨some 8, none, [.t 2], .v (.mv)⟩,
        ⟨some 9, none, [.c (.pv (.str [99, 97, 115, 101, 32, 120, 32, 111, 102, 32, 78, 111, 110, 101, 46, 32, 49, 32, 124, 32, 83, 111, 109, 101, 32, 120, 46, 32, 120, 32, 101, 110, 100]))], .callP 406⟩,
        ⟨some 10, none, [.t 9], .v (.field 5 1 false)⟩,
        ⟨some 11, none, [.t 8, .t 10], .callP 407⟩,
        ⟨some 7, none, [.t 11], .v (.mv)⟩,
        ⟨some 12, none, [.t 7], .v (.ext 0)⟩,
        ⟨some 13, none, [.t 7], .v (.ext 1)⟩,
        ⟨some 3, none, [.t 12], .v (.mv)⟩,
        ⟨some 4, none, [.t 13], .v (.mv)⟩] [1, 2, 3, 4])
      (.seq
       (.reg [⟨some 14, none, [.t 1], .loadL 1 0 11 true⟩,
         ⟨some 15, none, [.c (.pv (.int .i64 0)), .c (.pv (.int .i64 0))], .v (.bslice 1)⟩,
         ⟨some 16, none, [.t 14, .t 15], .callP 404⟩,
         ⟨some 17, none, [.c (.pv (.str [120]))], .v (.bslice 1)⟩,
         ⟨some 18, none, [.t 16, .t 17], .callP 408⟩,
         ⟨some 19, none, [.t 18], .v (.mv)⟩,
         ⟨some 20, some (19, true), [.t 1], .loadL 1 0 11 true⟩,
         ⟨some 21, some (19, true), [.c (.pv (.int .i64 0)), .c (.pv (.int .i64 1))], .v (.bslice 1)⟩,
         ⟨some 22, some (19, true), [.t 20, .t 21], .callP 404⟩,
         ⟨some 23, some (19, true), [.c (.pv (.str [120])), .c (.pv (.str [121]))], .v (.bslice 1)⟩,
         ⟨some 24, some (19, true), [.t 22, .t 23], .callP 408⟩,
         ⟨some 25, none, [.t 19, .t 24, .c (.pv (.bool false))], .v (.pick)⟩,
         ⟨some 26, none, [.t 25], .v (.mv)⟩,
         ⟨some 27, some (26, true), [.t 4], .v (.mv)⟩,
         ⟨some 28, none, [.t 26, .t 27, .c (.pv (.bool false))], .v (.pick)⟩,
         ⟨some 29, none, [.t 28], .v (.mv)⟩,
         ⟨some 30, some (29, true), [.t 3], .v (.mv)⟩,
         ⟨some 31, some (29, true), [.t 30, .c (.pv (.int .i64 0))], .v (.bin .eql)⟩,
         ⟨some 32, none, [.t 29, .t 31, .c (.pv (.bool false))], .v (.pick)⟩,
         ⟨some 33, none, [.t 32], .v (.mv)⟩,
         ⟨some 34, some (33, true), [.t 2], .v (.mv)⟩,
         ⟨some 35, some (33, true), [.c (.pv (.str [120]))], .callP 406⟩,
         ⟨some 36, some (33, true), [.t 34, .c (.clp []), .t 35], .callP 405⟩,
         ⟨some 37, some (33, true), [.t 36], .v (.field 0 1 false)⟩,
         ⟨some 38, some (33, true), [.t 37, .c (.pv (.int .i64 9))], .v (.bin .eql)⟩,
         ⟨some 39, none, [.t 33, .t 38, .c (.pv (.bool false))], .v (.pick)⟩,
         ⟨some 0, none, [.t 39], .v (.mv)⟩] [0])
       .ret))))), none, false⟩

/- typedholes/scope.Visible -/
def g404B1 : ACode :=
  (.seq
   (.reg [⟨some 31, none, [.t 30, .t 29], .v (.bin .lss)⟩] [2, 7, 9, 20, 21, 22, 28, 29, 30, 31])
   (.seq
    (.cond (.t 31)
     .skip
     (.exit 2))
    (.seq
     (.block 3
      (.seq
       (.reg [⟨some 32, none, [.t 28, .t 30], .v (.iaddr 1)⟩,
         ⟨some 33, none, [.t 32], .v (.loadE 1 false)⟩,
         ⟨some 11, none, [], .allocS [.str []]⟩,
         ⟨none, none, [.t 11, .t 33], .storeS 1⟩] [2, 7, 9, 11, 20, 21, 22, 28, 29, 30])
       (.seq
        (.reg [⟨some 34, none, [.t 7], .v (.mv)⟩,
          ⟨some 35, none, [.t 11], .v (.mkfn 413)⟩,
          ⟨some 36, none, [.t 34, .t 35], .callI 412 [0]⟩,
          ⟨some 7, none, [.t 36], .v (.mv)⟩] [2, 7, 9, 11, 20, 21, 22, 28, 29, 30])
        (.reg [⟨some 37, none, [.t 7], .v (.mv)⟩,
          ⟨some 38, none, [.t 11], .loadS 1 false⟩,
          ⟨some 39, none, [.t 38], .v (.bslice 1)⟩,
          ⟨some 40, none, [.t 37, .t 39], .appendS 1 16 false⟩,
          ⟨some 7, none, [.t 40], .v (.mv)⟩] [2, 7, 9, 20, 21, 22, 28, 29, 30]))))
     (.reg [⟨some 41, none, [.t 30, .c (.pv (.int .i64 1))], .v (.bin .add)⟩,
       ⟨some 30, none, [.t 41], .v (.mv)⟩] [2, 7, 9, 20, 21, 22, 28, 29, 30]))))
def g404L1 : ACode := .loop [2, 7, 9, 20, 21, 22, 28, 29, 30] g404B1
theorem g404L1_eq {AP : Nat → Option AFunc} {st : St} : cl AP g404L1 st = after (cl AP g404L1) (cl AP g404B1 (norm (restrict [2, 7, 9, 20, 21, 22, 28, 29, 30] st))) := cl_loop
def g404B0 : ACode :=
  (.seq
   (.reg [⟨some 23, none, [.t 22, .t 21], .v (.bin .lss)⟩] [2, 7, 20, 21, 22, 23])
   (.seq
    (.cond (.t 23)
     .skip
     (.exit 0))
    (.seq
     (.block 1
      (.seq
       (.reg [⟨some 24, none, [.t 20, .t 22], .v (.iaddr 1)⟩,
         ⟨some 25, none, [.t 24], .v (.loadE 1 false)⟩,
         ⟨some 9, none, [.t 25], .v (.mv)⟩] [2, 7, 9, 20, 21, 22])
       (.seq
        (.seq
         (.reg [⟨some 26, none, [.t 2], .loadL 2 0 11 true⟩,
           ⟨some 27, none, [.t 9], .v (.mv)⟩,
           ⟨some 28, none, [.t 26, .t 27], .callP 411⟩,
           ⟨some 29, none, [.t 28], .v (.len)⟩,
           ⟨some 30, none, [.c (.pv (.int .i64 0))], .v (.mv)⟩] [2, 7, 9, 20, 21, 22, 28, 29, 30])
         (.block 2
          g404L1))
        (.reg [⟨some 42, none, [.t 2], .loadL 2 0 11 true⟩,
          ⟨some 43, none, [.t 42], .callP 414⟩,
          ⟨some 44, none, [.t 9], .v (.mv)⟩,
          ⟨some 45, none, [.t 43, .t 44], .v (.iaddr 11)⟩,
          ⟨some 46, none, [.t 45], .v (.loadE 11 true)⟩,
          ⟨none, none, [.t 2, .t 46], .storeL 2 0 11⟩] [2, 7, 20, 21, 22]))))
     (.reg [⟨some 47, none, [.t 22, .c (.pv (.int .i64 1))], .v (.bin .add)⟩,
       ⟨some 22, none, [.t 47], .v (.mv)⟩] [2, 7, 20, 21, 22]))))
def g404L0 : ACode := .loop [2, 7, 20, 21, 22] g404B0
theorem g404L0_eq {AP : Nat → Option AFunc} {st : St} : cl AP g404L0 st = after (cl AP g404L0) (cl AP g404B0 (norm (restrict [2, 7, 20, 21, 22] st))) := cl_loop
def g404 : AFunc := ⟨2, 49, [.t 4],
  (.seq
   (.reg [⟨some 2, none, [.t 0], .box 2 11⟩,
     ⟨some 4, none, [.c (.clp [])], .v (.mv)⟩] [1, 2])
   (.seq
    (.seq
     (.reg [⟨some 13, none, [.t 2], .loadL 2 0 11 true⟩,
       ⟨some 14, none, [.t 1], .v (.mv)⟩,
       ⟨some 15, none, [.t 13, .t 14], .callP 410⟩,
       ⟨some 12, none, [.t 15], .v (.mv)⟩,
       ⟨some 16, none, [.t 12], .v (.ext 0)⟩,
       ⟨some 17, none, [.t 12], .v (.ext 1)⟩,
       ⟨some 5, none, [], .alloc 5 [.int .i64 0, .int .i64 0, .str [], .int .i64 0, .lst [], .lst [], .int .i64 0, .str [], .int .i64 0, .int .i64 0, .lst []]⟩,
       ⟨none, none, [.t 5, .t 16], .storeL 5 0 11⟩,
       ⟨some 6, none, [.t 17], .v (.mv)⟩] [1, 2, 6])
     (.seq
      (.reg [⟨some 18, none, [.t 6], .v (.mv)⟩,
        ⟨some 19, none, [.t 18], .v (.un .not)⟩] [1, 2, 19])
      (.cond (.t 19)
       (.seq
        (.reg [⟨some 4, none, [.c (.clp [])], .v (.mv)⟩] [4])
        .ret)
       .skip)))
    (.seq
     (.reg [⟨some 7, none, [.c (.clp [])], .v (.mv)⟩] [1, 2, 7])
     (.seq
      (.seq
       (.reg [⟨some 20, none, [.t 1], .v (.mv)⟩,
         ⟨some 21, none, [.t 20], .v (.len)⟩,
         ⟨some 22, none, [.c (.pv (.int .i64 0))], .v (.mv)⟩] [2, 7, 20, 21, 22])
       (.block 0
        g404L0))
      (.seq
       (.reg [⟨some 48, none, [.t 7], .v (.mv)⟩,
         ⟨some 4, none, [.t 48], .v (.mv)⟩] [4])
       .ret))))), none, false⟩

/- typedholes/scope.Expr -/
def g405B0 : ACode :=
  (.seq
   (.reg [⟨some 67, none, [.t 66, .t 65], .v (.bin .lss)⟩] [0, 1, 5, 6, 64, 65, 66, 67])
   (.seq
    (.cond (.t 67)
     .skip
     (.exit 1))
    (.seq
     (.block 2
      (.seq
       (.reg [⟨some 68, none, [.t 66], .v (.mv)⟩,
         ⟨some 69, none, [.t 64, .t 66], .v (.iaddr 11)⟩,
         ⟨some 70, none, [.t 69], .v (.loadE 11 true)⟩,
         ⟨some 13, none, [], .alloc 13 [.int .i64 0, .int .i64 0, .str [], .int .i64 0, .lst [], .lst [], .int .i64 0, .str [], .int .i64 0, .int .i64 0, .lst []]⟩,
         ⟨some 12, none, [.t 68], .v (.mv)⟩,
         ⟨none, none, [.t 13, .t 70], .storeL 13 0 11⟩] [0, 1, 5, 6, 12, 13, 64, 65, 66])
       (.seq
        (.reg [⟨some 71, none, [.t 0], .v (.mv)⟩,
          ⟨some 72, none, [.t 1], .v (.mv)⟩,
          ⟨some 73, none, [.t 5], .loadL 5 0 11 true⟩,
          ⟨some 74, none, [.t 12], .v (.mv)⟩,
          ⟨some 75, none, [.t 73, .t 74], .callP 411⟩,
          ⟨some 76, none, [.t 72, .t 75], .callP 409⟩,
          ⟨some 77, none, [.t 13], .loadL 13 0 11 true⟩,
          ⟨some 78, none, [.t 71, .t 76, .t 77], .callP 405⟩,
          ⟨some 14, none, [], .alloc 14 [.int .i64 0, .int .i64 0]⟩,
          ⟨none, none, [.t 14, .t 78], .storeL 14 0 2⟩] [0, 1, 5, 6, 14, 64, 65, 66])
        (.seq
         (.reg [⟨some 79, none, [.t 14], .v (.faddr 0)⟩,
           ⟨some 80, none, [.t 79], .loadL 14 0 1 false⟩,
           ⟨some 81, none, [.t 80, .c (.pv (.int .i64 0))], .v (.bin .neq)⟩] [0, 1, 5, 6, 14, 64, 65, 66, 81])
         (.cond (.t 81)
          (.seq
           (.reg [⟨some 82, none, [.t 14], .loadL 14 0 2 true⟩,
             ⟨none, none, [.t 6, .t 82], .storeL 6 0 2⟩] [6])
           .ret)
          .skip)))))
     (.reg [⟨some 83, none, [.t 66, .c (.pv (.int .i64 1))], .v (.bin .add)⟩,
       ⟨some 66, none, [.t 83], .v (.mv)⟩] [0, 1, 5, 6, 64, 65, 66]))))
def g405L0 : ACode := .loop [0, 1, 5, 6, 64, 65, 66] g405B0
theorem g405L0_eq {AP : Nat → Option AFunc} {st : St} : cl AP g405L0 st = after (cl AP g405L0) (cl AP g405B0 (norm (restrict [0, 1, 5, 6, 64, 65, 66] st))) := cl_loop
def g405 : AFunc := ⟨3, 85, [.c 6 2 true],
  (.seq
   (.reg [⟨some 5, none, [.t 2], .box 5 11⟩,
     ⟨some 6, none, [], .alloc 6 [.int .i64 0, .int .i64 0]⟩] [0, 1, 5, 6])
   (.seq
    (.reg [⟨some 7, none, [], .alloc 7 [.int .i64 0, .int .i64 0]⟩] [0, 1, 5, 6, 7])
    (.seq
     (.seq
      (.reg [⟨some 15, none, [.t 5], .v (.faddr 0)⟩,
        ⟨some 16, none, [.t 15], .loadL 5 0 1 false⟩] [0, 1, 5, 6, 7, 16])
      (.block 0
       (.seq
        (.reg [⟨some 18, none, [.t 16, .c (.pv (.int .i64 1))], .v (.bin .eql)⟩,
          ⟨some 17, none, [.t 18], .v (.mv)⟩] [0, 1, 5, 6, 7, 16, 17])
        (.cond (.t 17)
         (.seq
          (.reg [⟨some 19, none, [.t 1], .v (.mv)⟩,
            ⟨some 20, none, [.t 5], .v (.faddr 2)⟩,
            ⟨some 21, none, [.t 20], .loadL 5 2 1 false⟩,
            ⟨some 22, none, [.t 19, .t 21], .callP 214⟩,
            ⟨some 23, none, [.t 22], .v (.un .not)⟩] [0, 1, 5, 6, 7, 23])
          (.cond (.t 23)
           (.reg [⟨some 24, none, [.t 5], .v (.faddr 1)⟩,
             ⟨some 25, none, [.t 24], .loadL 5 1 1 false⟩,
             ⟨some 26, none, [.c (.pv (.int .i64 9)), .t 25], .v (.build [.int .i64 0, .int .i64 0] [(0, 1), (1, 1)])⟩,
             ⟨none, none, [.t 7, .t 26], .storeL 7 0 2⟩] [0, 1, 5, 6, 7])
           .skip))
         (.seq
          (.reg [⟨some 28, none, [.t 16, .c (.pv (.int .i64 2))], .v (.bin .eql)⟩,
            ⟨some 27, none, [.t 28], .v (.mv)⟩] [0, 1, 5, 6, 7, 16, 27])
          (.cond (.t 27)
           (.seq
            (.reg [⟨some 30, none, [.t 0], .v (.mv)⟩,
              ⟨some 31, none, [.t 5], .v (.faddr 2)⟩,
              ⟨some 32, none, [.t 31], .loadL 5 2 1 false⟩,
              ⟨some 33, none, [.t 30, .t 32], .callP 190⟩,
              ⟨some 29, none, [.t 33], .v (.mv)⟩,
              ⟨some 34, none, [.t 29], .v (.ext 0)⟩,
              ⟨some 35, none, [.t 29], .v (.ext 1)⟩,
              ⟨some 36, none, [.t 29], .v (.ext 2)⟩,
              ⟨some 8, none, [.t 34], .v (.mv)⟩,
              ⟨some 9, none, [.t 35], .v (.mv)⟩,
              ⟨some 10, none, [.t 36], .v (.mv)⟩] [0, 1, 5, 6, 7, 10])
            (.seq
             (.reg [⟨some 37, none, [.t 10], .v (.mv)⟩,
               ⟨some 38, none, [.t 37], .v (.un .not)⟩] [0, 1, 5, 6, 7, 38])
             (.cond (.t 38)
              (.reg [⟨some 39, none, [.t 5], .v (.faddr 1)⟩,
                ⟨some 40, none, [.t 39], .loadL 5 1 1 false⟩,
                ⟨some 41, none, [.c (.pv (.int .i64 9)), .t 40], .v (.build [.int .i64 0, .int .i64 0] [(0, 1), (1, 1)])⟩,
                ⟨none, none, [.t 7, .t 41], .storeL 7 0 2⟩] [0, 1, 5, 6, 7])
              .skip)))
           (.seq
            (.reg [⟨some 43, none, [.t 16, .c (.pv (.int .i64 8))], .v (.bin .eql)⟩,
              ⟨some 42, none, [.t 43], .v (.mv)⟩] [0, 1, 5, 6, 7, 16, 42])
            (.cond (.t 42)
             (.reg [⟨some 44, none, [.t 0], .v (.mv)⟩,
               ⟨some 45, none, [.t 5], .loadL 5 0 11 true⟩,
               ⟨some 46, none, [.t 44, .t 45], .callP 415⟩,
               ⟨none, none, [.t 7, .t 46], .storeL 7 0 2⟩] [0, 1, 5, 6, 7])
             (.seq
              (.reg [⟨some 48, none, [.t 16, .c (.pv (.int .i64 9))], .v (.bin .eql)⟩,
                ⟨some 47, none, [.t 48], .v (.mv)⟩] [0, 1, 5, 6, 7, 47])
              (.cond (.t 47)
               (.seq
                (.reg [⟨some 49, none, [.t 0], .v (.mv)⟩,
                  ⟨some 50, none, [.t 5], .v (.faddr 6)⟩,
                  ⟨some 51, none, [.t 50], .loadL 5 6 5 true⟩,
                  ⟨some 52, none, [.t 49, .t 51, .c (.clp [])], .callP 185⟩,
                  ⟨some 11, none, [.t 52], .v (.mv)⟩] [0, 1, 5, 6, 7, 11])
                (.seq
                 (.reg [⟨some 53, none, [.t 11], .v (.mv)⟩,
                   ⟨some 54, none, [.t 53, .c (.pv (.int .i64 0))], .v (.bin .neq)⟩] [0, 1, 5, 6, 7, 11, 54])
                 (.cond (.t 54)
                  (.reg [⟨some 55, none, [.t 11], .v (.mv)⟩,
                    ⟨some 56, none, [.t 5], .v (.faddr 1)⟩,
                    ⟨some 57, none, [.t 56], .loadL 5 1 1 false⟩,
                    ⟨some 58, none, [.t 55, .t 57], .v (.build [.int .i64 0, .int .i64 0] [(0, 1), (1, 1)])⟩,
                    ⟨none, none, [.t 7, .t 58], .storeL 7 0 2⟩] [0, 1, 5, 6, 7])
                  .skip)))
               .skip))))))))))
     (.seq
      (.seq
       (.reg [⟨some 59, none, [.t 7], .v (.faddr 0)⟩,
         ⟨some 60, none, [.t 59], .loadL 7 0 1 false⟩,
         ⟨some 61, none, [.t 60, .c (.pv (.int .i64 0))], .v (.bin .neq)⟩] [0, 1, 5, 6, 7, 61])
       (.cond (.t 61)
        (.seq
         (.reg [⟨some 62, none, [.t 7], .loadL 7 0 2 true⟩,
           ⟨none, none, [.t 6, .t 62], .storeL 6 0 2⟩] [6])
         .ret)
        .skip))
      (.seq
       (.seq
        (.reg [⟨some 63, none, [.t 5], .loadL 5 0 11 true⟩,
          ⟨some 64, none, [.t 63], .callP 414⟩,
          ⟨some 65, none, [.t 64], .v (.len)⟩,
          ⟨some 66, none, [.c (.pv (.int .i64 0))], .v (.mv)⟩] [0, 1, 5, 6, 64, 65, 66])
        (.block 1
         g405L0))
       (.seq
        (.reg [⟨some 84, none, [], .v (.build [.int .i64 0, .int .i64 0] [])⟩,
          ⟨none, none, [.t 6, .t 84], .storeL 6 0 2⟩] [6])
        .ret)))))), none, false⟩

/- typedholes/typedholeslaw10.expr -/
def g406 : AFunc := ⟨1, 11, [.c 2 11 true],
  (.seq
   (.reg [⟨some 2, none, [], .alloc 2 [.int .i64 0, .int .i64 0, .str [], .int .i64 0, .lst [], .lst [], .int .i64 0, .str [], .int .i64 0, .int .i64 0, .lst []]⟩] [0, 2])
   (.seq
    (.reg [⟨some 6, none, [.t 0], .v (.mv)⟩,
      ⟨some 7, none, [.t 6], .callP 250⟩,
      ⟨some 5, none, [.t 7], .v (.mv)⟩,
      ⟨some 8, none, [.t 5], .v (.ext 0)⟩,
      ⟨some 9, none, [.t 5], .v (.ext 1)⟩,
      ⟨some 3, none, [], .alloc 3 [.int .i64 0, .int .i64 0, .str [], .int .i64 0, .lst [], .lst [], .int .i64 0, .str [], .int .i64 0, .int .i64 0, .lst []]⟩,
      ⟨some 4, none, [], .alloc 4 [.int .i64 0, .int .i64 0]⟩,
      ⟨none, none, [.t 3, .t 8], .storeL 3 0 11⟩,
      ⟨none, none, [.t 4, .t 9], .storeL 4 0 2⟩] [2, 3])
    (.seq
     (.reg [⟨some 10, none, [.t 3], .loadL 3 0 11 true⟩,
       ⟨none, none, [.t 2, .t 10], .storeL 2 0 11⟩] [2])
     .ret))), none, false⟩

/- typedholes/scope.Arms -/
def g407 : AFunc := ⟨2, 14, [.t 4, .t 5],
  (.seq
   (.reg [⟨some 3, none, [.t 1], .boxS 1⟩,
     ⟨some 4, none, [.c (.pv (.int .i64 0))], .v (.mv)⟩,
     ⟨some 5, none, [.c (.pv (.bool false))], .v (.mv)⟩] [0, 3])
   (.seq
    (.reg [⟨some 7, none, [.t 0], .v (.mv)⟩,
      ⟨some 8, none, [.t 3], .v (.mkfn 417)⟩,
      ⟨some 9, none, [.t 7, .t 8], .callI 416 []⟩,
      ⟨some 6, none, [.t 9], .v (.mv)⟩] [6])
    (.seq
     (.reg [⟨some 10, none, [.t 6], .v (.mv)⟩,
       ⟨some 11, none, [.t 10, .c (.pv (.int .i64 0))], .v (.mx)⟩,
       ⟨some 12, none, [.t 6], .v (.mv)⟩,
       ⟨some 13, none, [.t 12, .c (.pv (.int .i64 0))], .v (.bin .geq)⟩,
       ⟨some 4, none, [.t 11], .v (.mv)⟩,
       ⟨some 5, none, [.t 13], .v (.mv)⟩] [4, 5])
     .ret))), none, false⟩

/- typedholes/typedholeslaw10.same -/
def g408B0 : ACode :=
  (.seq
   (.seq
    (.reg [⟨some 11, none, [.t 5], .v (.mv)⟩,
      ⟨some 12, none, [.t 0], .v (.mv)⟩,
      ⟨some 13, none, [.t 12], .v (.len)⟩,
      ⟨some 14, none, [.t 11, .t 13], .v (.bin .lss)⟩] [0, 1, 5, 14])
    (.cond (.t 14)
     .skip
     (.exit 0)))
   (.seq
    (.block 1
     (.seq
      (.reg [⟨some 17, none, [.t 0], .v (.mv)⟩,
        ⟨some 18, none, [.t 5], .v (.mv)⟩,
        ⟨some 19, none, [.t 17, .t 18], .v (.iaddr 1)⟩,
        ⟨some 20, none, [.t 19], .v (.loadE 1 false)⟩,
        ⟨some 21, none, [.t 1], .v (.mv)⟩,
        ⟨some 22, none, [.t 5], .v (.mv)⟩,
        ⟨some 23, none, [.t 21, .t 22], .v (.iaddr 1)⟩,
        ⟨some 24, none, [.t 23], .v (.loadE 1 false)⟩,
        ⟨some 25, none, [.t 20, .t 24], .v (.bin .neq)⟩] [0, 1, 5, 25])
      (.cond (.t 25)
       (.seq
        (.reg [⟨some 4, none, [.c (.pv (.bool false))], .v (.mv)⟩] [4])
        .ret)
       .skip)))
    (.reg [⟨some 15, none, [.t 5], .v (.mv)⟩,
      ⟨some 16, none, [.t 15, .c (.pv (.int .i64 1))], .v (.bin .add)⟩,
      ⟨some 5, none, [.t 16], .v (.mv)⟩] [0, 1, 5])))
def g408L0 : ACode := .loop [0, 1, 5] g408B0
theorem g408L0_eq {AP : Nat → Option AFunc} {st : St} : cl AP g408L0 st = after (cl AP g408L0) (cl AP g408B0 (norm (restrict [0, 1, 5] st))) := cl_loop
def g408 : AFunc := ⟨2, 26, [.t 4],
  (.seq
   (.reg [⟨some 4, none, [.c (.pv (.bool false))], .v (.mv)⟩] [0, 1])
   (.seq
    (.seq
     (.reg [⟨some 6, none, [.t 0], .v (.mv)⟩,
       ⟨some 7, none, [.t 6], .v (.len)⟩,
       ⟨some 8, none, [.t 1], .v (.mv)⟩,
       ⟨some 9, none, [.t 8], .v (.len)⟩,
       ⟨some 10, none, [.t 7, .t 9], .v (.bin .neq)⟩] [0, 1, 10])
     (.cond (.t 10)
      (.seq
       (.reg [⟨some 4, none, [.c (.pv (.bool false))], .v (.mv)⟩] [4])
       .ret)
      .skip))
    (.seq
     (.seq
      (.reg [⟨some 5, none, [.c (.pv (.int .i64 0))], .v (.mv)⟩] [0, 1, 5])
      (.block 0
       g408L0))
     (.seq
      (.reg [⟨some 4, none, [.c (.pv (.bool true))], .v (.mv)⟩] [4])
      .ret)))), none, false⟩

/- typedholes/scope.with -/
def g409 : AFunc := ⟨2, 9, [.t 4],
  (.seq
   (.reg [⟨some 4, none, [.c (.clp [])], .v (.mv)⟩] [0, 1])
   (.seq
    (.reg [⟨some 5, none, [.t 0], .v (.mv)⟩,
      ⟨some 6, none, [.t 5], .clone 1 16⟩,
      ⟨some 7, none, [.t 1], .v (.mv)⟩,
      ⟨some 8, none, [.t 6, .t 7], .append 1 16⟩,
      ⟨some 4, none, [.t 8], .v (.mv)⟩] [4])
    .ret)), none, false⟩

/- typedholes/tree.At -/
def g410B0 : ACode :=
  (.seq
   (.reg [⟨some 12, none, [.t 11, .t 10], .v (.bin .lss)⟩] [2, 4, 9, 10, 11, 12])
   (.seq
    (.cond (.t 12)
     .skip
     (.exit 0))
    (.seq
     (.block 1
      (.seq
       (.reg [⟨some 13, none, [.t 9, .t 11], .v (.iaddr 1)⟩,
         ⟨some 14, none, [.t 13], .v (.loadE 1 false)⟩,
         ⟨some 7, none, [.t 14], .v (.mv)⟩] [2, 4, 7, 9, 10, 11])
       (.seq
        (.reg [⟨some 15, none, [.t 2], .loadL 2 0 11 true⟩,
          ⟨some 16, none, [.t 15], .callP 414⟩,
          ⟨some 8, none, [.t 16], .v (.mv)⟩] [2, 4, 7, 8, 9, 10, 11])
        (.seq
         (.seq
          (.reg [⟨some 17, none, [.t 7], .v (.mv)⟩,
            ⟨some 18, none, [.t 17, .c (.pv (.int .i64 0))], .v (.bin .lss)⟩,
            ⟨some 19, none, [.t 18], .v (.mv)⟩,
            ⟨some 20, some (19, false), [.t 7], .v (.mv)⟩,
            ⟨some 21, some (19, false), [.t 8], .v (.mv)⟩,
            ⟨some 22, some (19, false), [.t 21], .v (.len)⟩,
            ⟨some 23, some (19, false), [.t 20, .t 22], .v (.bin .geq)⟩,
            ⟨some 24, none, [.t 19, .c (.pv (.bool true)), .t 23], .v (.pick)⟩] [2, 4, 7, 8, 9, 10, 11, 24])
          (.cond (.t 24)
           (.seq
            (.reg [⟨some 25, none, [], .v (.build [.int .i64 0, .int .i64 0, .str [], .int .i64 0, .lst [], .lst [], .int .i64 0, .str [], .int .i64 0, .int .i64 0, .lst []] [])⟩,
              ⟨none, none, [.t 4, .t 25], .storeL 4 0 11⟩,
              ⟨some 5, none, [.c (.pv (.bool false))], .v (.mv)⟩] [4, 5])
            .ret)
           .skip))
         (.reg [⟨some 26, none, [.t 8], .v (.mv)⟩,
           ⟨some 27, none, [.t 7], .v (.mv)⟩,
           ⟨some 28, none, [.t 26, .t 27], .v (.iaddr 11)⟩,
           ⟨some 29, none, [.t 28], .v (.loadE 11 true)⟩,
           ⟨none, none, [.t 2, .t 29], .storeL 2 0 11⟩] [2, 4, 9, 10, 11])))))
     (.reg [⟨some 30, none, [.t 11, .c (.pv (.int .i64 1))], .v (.bin .add)⟩,
       ⟨some 11, none, [.t 30], .v (.mv)⟩] [2, 4, 9, 10, 11]))))
def g410L0 : ACode := .loop [2, 4, 9, 10, 11] g410B0
theorem g410L0_eq {AP : Nat → Option AFunc} {st : St} : cl AP g410L0 st = after (cl AP g410L0) (cl AP g410B0 (norm (restrict [2, 4, 9, 10, 11] st))) := cl_loop
def g410 : AFunc := ⟨2, 32, [.c 4 11 true, .t 5],
  (.seq
   (.reg [⟨some 2, none, [.t 0], .box 2 11⟩,
     ⟨some 4, none, [], .alloc 4 [.int .i64 0, .int .i64 0, .str [], .int .i64 0, .lst [], .lst [], .int .i64 0, .str [], .int .i64 0, .int .i64 0, .lst []]⟩,
     ⟨some 5, none, [.c (.pv (.bool false))], .v (.mv)⟩] [1, 2, 4])
   (.seq
    (.seq
     (.reg [⟨some 9, none, [.t 1], .v (.mv)⟩,
       ⟨some 10, none, [.t 9], .v (.len)⟩,
       ⟨some 11, none, [.c (.pv (.int .i64 0))], .v (.mv)⟩] [2, 4, 9, 10, 11])
     (.block 0
      g410L0))
    (.seq
     (.reg [⟨some 31, none, [.t 2], .loadL 2 0 11 true⟩,
       ⟨none, none, [.t 4, .t 31], .storeL 4 0 11⟩,
       ⟨some 5, none, [.c (.pv (.bool true))], .v (.mv)⟩] [4, 5])
     .ret))), none, false⟩

/- typedholes/scope.bound -/
def g411 : AFunc := ⟨2, 37, [.t 4],
  (.seq
   (.reg [⟨some 2, none, [.t 0], .box 2 11⟩,
     ⟨some 4, none, [.c (.clp [])], .v (.mv)⟩] [1, 2])
   (.seq
    (.seq
     (.reg [⟨some 5, none, [.t 2], .v (.faddr 0)⟩,
       ⟨some 6, none, [.t 5], .loadL 2 0 1 false⟩] [1, 2, 6])
     (.block 0
      (.seq
       (.seq
        (.reg [⟨some 8, none, [.t 6, .c (.pv (.int .i64 4))], .v (.bin .eql)⟩,
          ⟨some 7, none, [.t 8], .v (.mv)⟩] [1, 2, 6, 7])
        (.cond (.t 7)
         .skip
         (.reg [⟨some 9, none, [.t 6, .c (.pv (.int .i64 7))], .v (.bin .eql)⟩,
           ⟨some 7, none, [.t 9], .v (.mv)⟩] [1, 2, 6, 7])))
       (.cond (.t 7)
        (.seq
         (.reg [⟨some 10, none, [.t 2], .v (.faddr 2)⟩,
           ⟨some 11, none, [.t 10], .loadL 2 2 1 false⟩,
           ⟨some 12, none, [.t 11], .v (.bslice 1)⟩,
           ⟨some 4, none, [.t 12], .v (.mv)⟩] [4])
         .ret)
        (.seq
         (.reg [⟨some 14, none, [.t 6, .c (.pv (.int .i64 6))], .v (.bin .eql)⟩,
           ⟨some 13, none, [.t 14], .v (.mv)⟩] [1, 2, 6, 13])
         (.cond (.t 13)
          (.seq
           (.reg [⟨some 15, none, [.t 1], .v (.mv)⟩,
             ⟨some 16, none, [.t 15, .c (.pv (.int .i64 1))], .v (.bin .eql)⟩] [2, 16])
           (.cond (.t 16)
            (.seq
             (.reg [⟨some 17, none, [.t 2], .v (.faddr 2)⟩,
               ⟨some 18, none, [.t 17], .loadL 2 2 1 false⟩,
               ⟨some 19, none, [.t 18], .v (.bslice 1)⟩,
               ⟨some 4, none, [.t 19], .v (.mv)⟩] [4])
             .ret)
            .skip))
          (.seq
           (.reg [⟨some 21, none, [.t 6, .c (.pv (.int .i64 8))], .v (.bin .eql)⟩,
             ⟨some 20, none, [.t 21], .v (.mv)⟩] [1, 2, 20])
           (.cond (.t 20)
            (.seq
             (.reg [⟨some 22, none, [.t 1], .v (.mv)⟩,
               ⟨some 23, none, [.t 2], .v (.faddr 4)⟩,
               ⟨some 24, none, [.t 23], .loadL 2 4 1 false⟩,
               ⟨some 25, none, [.t 24], .v (.len)⟩,
               ⟨some 26, none, [.t 22, .t 25], .v (.bin .geq)⟩] [1, 2, 26])
             (.cond (.t 26)
              (.seq
               (.reg [⟨some 27, none, [.t 2], .v (.faddr 5)⟩,
                 ⟨some 28, none, [.t 27], .loadL 2 5 1 false⟩,
                 ⟨some 29, none, [.t 1], .v (.mv)⟩,
                 ⟨some 30, none, [.t 2], .v (.faddr 4)⟩,
                 ⟨some 31, none, [.t 30], .loadL 2 4 1 false⟩,
                 ⟨some 32, none, [.t 31], .v (.len)⟩,
                 ⟨some 33, none, [.t 29, .t 32], .v (.bin .sub)⟩,
                 ⟨some 34, none, [.t 28, .t 33], .v (.iaddr 14)⟩,
                 ⟨some 35, none, [.t 34], .v (.faddr 2)⟩,
                 ⟨some 36, none, [.t 35], .v (.loadE 1 false)⟩,
                 ⟨some 4, none, [.t 36], .v (.mv)⟩] [4])
               .ret)
              .skip))
            .skip))))))))
    (.seq
     (.reg [⟨some 4, none, [.c (.clp [])], .v (.mv)⟩] [4])
     .ret))), none, false⟩

/- slices.DeleteFunc[[]string,string] -/
def g412B0 : ACode :=
  (.seq
   (.seq
    (.reg [⟨some 16, none, [.t 6], .v (.mv)⟩,
      ⟨some 17, none, [.t 0], .v (.mv)⟩,
      ⟨some 18, none, [.t 17], .v (.len)⟩,
      ⟨some 19, none, [.t 16, .t 18], .v (.bin .lss)⟩] [0, 1, 5, 6, 19])
    (.cond (.t 19)
     .skip
     (.exit 0)))
   (.seq
    (.block 1
     (.seq
      (.reg [⟨some 22, none, [.t 0], .v (.mv)⟩,
        ⟨some 23, none, [.t 6], .v (.mv)⟩,
        ⟨some 24, none, [.t 22, .t 23], .v (.iaddr 1)⟩,
        ⟨some 25, none, [.t 24], .loadS 1 false⟩,
        ⟨some 7, none, [.t 25], .v (.mv)⟩] [0, 1, 5, 6, 7])
      (.seq
       (.reg [⟨some 26, none, [.t 1], .v (.mv)⟩,
         ⟨some 27, none, [.t 7], .v (.mv)⟩,
         ⟨some 28, none, [.t 26, .t 27], .callV⟩,
         ⟨some 29, none, [.t 28], .v (.un .not)⟩] [0, 1, 5, 6, 7, 29])
       (.cond (.t 29)
        (.seq
         (.reg [⟨some 30, none, [.t 0], .v (.mv)⟩,
           ⟨some 31, none, [.t 5], .v (.mv)⟩,
           ⟨some 32, none, [.t 7], .v (.mv)⟩,
           ⟨some 33, none, [.t 30, .t 31], .v (.iaddr 1)⟩,
           ⟨none, none, [.t 33, .t 32], .storeS 1⟩] [0, 1, 5, 6])
         (.reg [⟨some 34, none, [.t 5], .v (.mv)⟩,
           ⟨some 35, none, [.t 34, .c (.pv (.int .i64 1))], .v (.bin .add)⟩,
           ⟨some 5, none, [.t 35], .v (.mv)⟩] [0, 1, 5, 6]))
        .skip))))
    (.reg [⟨some 20, none, [.t 6], .v (.mv)⟩,
      ⟨some 21, none, [.t 20, .c (.pv (.int .i64 1))], .v (.bin .add)⟩,
      ⟨some 6, none, [.t 21], .v (.mv)⟩] [0, 1, 5, 6])))
def g412L0 : ACode := .loop [0, 1, 5, 6] g412B0
theorem g412L0_eq {AP : Nat → Option AFunc} {st : St} : cl AP g412L0 st = after (cl AP g412L0) (cl AP g412B0 (norm (restrict [0, 1, 5, 6] st))) := cl_loop
def g412 : AFunc := ⟨2, 42, [.t 4],
  (.seq
   (.reg [⟨some 4, none, [.c (.clp [])], .v (.mv)⟩] [0, 1])
   (.seq
    (.reg [⟨some 8, none, [.t 0], .v (.mv)⟩,
      ⟨some 9, none, [.t 1], .v (.mv)⟩,
      ⟨some 10, none, [.t 8, .t 9], .callI 421 []⟩,
      ⟨some 5, none, [.t 10], .v (.mv)⟩] [0, 1, 5])
    (.seq
     (.seq
      (.reg [⟨some 11, none, [.t 5], .v (.mv)⟩,
        ⟨some 12, none, [.t 11, .c (.pv (.int .i64 (-1)))], .v (.bin .eql)⟩] [0, 1, 5, 12])
      (.cond (.t 12)
       (.seq
        (.reg [⟨some 13, none, [.t 0], .v (.mv)⟩,
          ⟨some 4, none, [.t 13], .v (.mv)⟩] [4])
        .ret)
       .skip))
     (.seq
      (.seq
       (.reg [⟨some 14, none, [.t 5], .v (.mv)⟩,
         ⟨some 15, none, [.t 14, .c (.pv (.int .i64 1))], .v (.bin .add)⟩,
         ⟨some 6, none, [.t 15], .v (.mv)⟩] [0, 1, 5, 6])
       (.block 0
        g412L0))
      (.seq
       (.reg [⟨some 36, none, [.t 0], .v (.mv)⟩,
         ⟨some 37, none, [.t 5], .v (.mv)⟩,
         ⟨some 38, none, [.t 36, .t 37], .v (.sliceH 1 true false)⟩,
         ⟨none, none, [.t 38], .clearS 1 [.str []]⟩] [0, 5])
       (.seq
        (.reg [⟨some 39, none, [.t 0], .v (.mv)⟩,
          ⟨some 40, none, [.t 5], .v (.mv)⟩,
          ⟨some 41, none, [.t 39, .t 40], .v (.sliceH 1 false true)⟩,
          ⟨some 4, none, [.t 41], .v (.mv)⟩] [4])
        .ret)))))), none, true⟩

/- typedholes/scope.Visible$1 -/
def g413 : AFunc := ⟨1, 7, [.t 3],
  (.seq
   (.reg [⟨some 3, none, [.c (.pv (.bool false))], .v (.mv)⟩] [0, 1])
   (.seq
    (.reg [⟨some 4, none, [.t 0], .v (.mv)⟩,
      ⟨some 5, none, [.t 1], .loadS 1 false⟩,
      ⟨some 6, none, [.t 4, .t 5], .v (.bin .eql)⟩,
      ⟨some 3, none, [.t 6], .v (.mv)⟩] [3])
    .ret)), none, false⟩

/- typedholes/tree.Children -/
def g414B0 : ACode :=
  (.seq
   (.reg [⟨some 13, none, [.t 12, .t 11], .v (.bin .lss)⟩] [3, 10, 11, 12, 13])
   (.seq
    (.cond (.t 13)
     .skip
     (.exit 0))
    (.seq
     (.block 1
      (.seq
       (.reg [⟨some 14, none, [.t 10, .t 12], .v (.iaddr 14)⟩,
         ⟨some 15, none, [.t 14], .v (.loadE 14 true)⟩,
         ⟨some 5, none, [], .alloc 5 [.int .i64 0, .str [], .lst [], .int .i64 0, .int .i64 0, .str [], .int .i64 0, .lst [], .lst [], .int .i64 0, .str [], .int .i64 0, .int .i64 0, .lst []]⟩,
         ⟨none, none, [.t 5, .t 15], .storeL 5 0 14⟩] [3, 5, 10, 11, 12])
       (.reg [⟨some 16, none, [.t 3], .v (.mv)⟩,
         ⟨some 17, none, [.t 5], .v (.faddr 3)⟩,
         ⟨some 18, none, [.t 17], .loadL 5 3 11 true⟩,
         ⟨some 19, none, [.t 18], .v (.bslice 11)⟩,
         ⟨some 20, none, [.t 16, .t 19], .append 11 152⟩,
         ⟨some 3, none, [.t 20], .v (.mv)⟩] [3, 10, 11, 12])))
     (.reg [⟨some 21, none, [.t 12, .c (.pv (.int .i64 1))], .v (.bin .add)⟩,
       ⟨some 12, none, [.t 21], .v (.mv)⟩] [3, 10, 11, 12]))))
def g414L0 : ACode := .loop [3, 10, 11, 12] g414B0
theorem g414L0_eq {AP : Nat → Option AFunc} {st : St} : cl AP g414L0 st = after (cl AP g414L0) (cl AP g414B0 (norm (restrict [3, 10, 11, 12] st))) := cl_loop
def g414 : AFunc := ⟨1, 23, [.t 2],
  (.seq
   (.reg [⟨some 1, none, [.t 0], .box 1 11⟩,
     ⟨some 2, none, [.c (.clp [])], .v (.mv)⟩] [1])
   (.seq
    (.reg [⟨some 6, none, [.t 1], .v (.faddr 4)⟩,
      ⟨some 7, none, [.t 6], .loadL 1 4 1 false⟩,
      ⟨some 8, none, [.t 7], .clone 11 152⟩,
      ⟨some 3, none, [.t 8], .v (.mv)⟩] [1, 3])
    (.seq
     (.seq
      (.reg [⟨some 9, none, [.t 1], .v (.faddr 5)⟩,
        ⟨some 10, none, [.t 9], .loadL 1 5 1 false⟩,
        ⟨some 11, none, [.t 10], .v (.len)⟩,
        ⟨some 12, none, [.c (.pv (.int .i64 0))], .v (.mv)⟩] [3, 10, 11, 12])
      (.block 0
       g414L0))
     (.seq
      (.reg [⟨some 22, none, [.t 3], .v (.mv)⟩,
        ⟨some 2, none, [.t 22], .v (.mv)⟩] [2])
      .ret)))), none, false⟩

/- typedholes/scope.analysis -/
def g415B0 : ACode :=
  (.seq
   (.reg [⟨some 20, none, [.t 19, .t 18], .v (.bin .lss)⟩] [0, 3, 4, 17, 18, 19, 20])
   (.seq
    (.cond (.t 20)
     .skip
     (.exit 0))
    (.seq
     (.block 1
      (.seq
       (.reg [⟨some 21, none, [.t 17, .t 19], .v (.iaddr 14)⟩,
         ⟨some 22, none, [.t 21], .v (.loadE 14 true)⟩,
         ⟨some 6, none, [], .alloc 6 [.int .i64 0, .str [], .lst [], .int .i64 0, .int .i64 0, .str [], .int .i64 0, .lst [], .lst [], .int .i64 0, .str [], .int .i64 0, .int .i64 0, .lst []]⟩,
         ⟨none, none, [.t 6, .t 22], .storeL 6 0 14⟩] [0, 3, 4, 6, 17, 18, 19])
       (.seq
        (.reg [⟨some 24, none, [.t 0], .v (.mv)⟩,
          ⟨some 25, none, [.t 6], .v (.faddr 1)⟩,
          ⟨some 26, none, [.t 25], .loadL 6 1 1 false⟩,
          ⟨some 27, none, [.t 24, .t 26], .callP 190⟩,
          ⟨some 23, none, [.t 27], .v (.mv)⟩,
          ⟨some 28, none, [.t 23], .v (.ext 0)⟩,
          ⟨some 29, none, [.t 23], .v (.ext 1)⟩,
          ⟨some 30, none, [.t 23], .v (.ext 2)⟩,
          ⟨some 7, none, [.t 28], .v (.mv)⟩,
          ⟨some 8, none, [.t 29], .v (.mv)⟩,
          ⟨some 9, none, [.t 30], .v (.mv)⟩] [0, 3, 4, 6, 9, 17, 18, 19])
        (.seq
         (.reg [⟨some 31, none, [.t 9], .v (.mv)⟩,
           ⟨some 32, none, [.t 31], .v (.un .not)⟩] [0, 3, 4, 6, 17, 18, 19, 32])
         (.cond (.t 32)
          (.seq
           (.reg [⟨some 33, none, [.t 6], .v (.faddr 0)⟩,
             ⟨some 34, none, [.t 33], .loadL 6 0 1 false⟩,
             ⟨some 35, none, [.c (.pv (.int .i64 9)), .t 34], .v (.build [.int .i64 0, .int .i64 0] [(0, 1), (1, 1)])⟩,
             ⟨none, none, [.t 4, .t 35], .storeL 4 0 2⟩] [4])
           .ret)
          .skip)))))
     (.reg [⟨some 36, none, [.t 19, .c (.pv (.int .i64 1))], .v (.bin .add)⟩,
       ⟨some 19, none, [.t 36], .v (.mv)⟩] [0, 3, 4, 17, 18, 19]))))
def g415L0 : ACode := .loop [0, 3, 4, 17, 18, 19] g415B0
theorem g415L0_eq {AP : Nat → Option AFunc} {st : St} : cl AP g415L0 st = after (cl AP g415L0) (cl AP g415B0 (norm (restrict [0, 3, 4, 17, 18, 19] st))) := cl_loop
def g415B2 : ACode :=
  (.seq
   (.reg [⟨some 78, none, [.t 77, .t 76], .v (.bin .lss)⟩] [0, 4, 10, 13, 50, 51, 52, 75, 76, 77, 78])
   (.seq
    (.cond (.t 78)
     .skip
     (.exit 4))
    (.seq
     (.block 5
      (.seq
       (.reg [⟨some 79, none, [.t 77], .v (.mv)⟩,
         ⟨some 80, none, [.t 75, .t 77], .v (.iaddr 1)⟩,
         ⟨some 81, none, [.t 80], .v (.loadE 1 false)⟩,
         ⟨some 14, none, [.t 79], .v (.mv)⟩,
         ⟨some 15, none, [.t 81], .v (.mv)⟩] [0, 4, 10, 13, 14, 15, 50, 51, 52, 75, 76, 77])
       (.seq
        (.reg [⟨some 82, none, [.t 13], .v (.faddr 2)⟩,
          ⟨some 83, none, [.t 82], .loadL 13 2 1 false⟩,
          ⟨some 84, none, [.t 14], .v (.mv)⟩,
          ⟨some 85, none, [.t 83, .t 84], .v (.slice false 1 false true false)⟩,
          ⟨some 86, none, [.t 15], .v (.mv)⟩,
          ⟨some 87, none, [.t 85, .t 86], .callP 214⟩] [0, 4, 10, 13, 50, 51, 52, 75, 76, 77, 87])
        (.cond (.t 87)
         (.seq
          (.reg [⟨some 88, none, [.t 13], .v (.faddr 0)⟩,
            ⟨some 89, none, [.t 88], .loadL 13 0 1 false⟩,
            ⟨some 90, none, [.c (.pv (.int .i64 6)), .t 89], .v (.build [.int .i64 0, .int .i64 0] [(0, 1), (1, 1)])⟩,
            ⟨none, none, [.t 4, .t 90], .storeL 4 0 2⟩] [4])
          .ret)
         .skip))))
     (.reg [⟨some 91, none, [.t 77, .c (.pv (.int .i64 1))], .v (.bin .add)⟩,
       ⟨some 77, none, [.t 91], .v (.mv)⟩] [0, 4, 10, 13, 50, 51, 52, 75, 76, 77]))))
def g415L2 : ACode := .loop [0, 4, 10, 13, 50, 51, 52, 75, 76, 77] g415B2
theorem g415L2_eq {AP : Nat → Option AFunc} {st : St} : cl AP g415L2 st = after (cl AP g415L2) (cl AP g415B2 (norm (restrict [0, 4, 10, 13, 50, 51, 52, 75, 76, 77] st))) := cl_loop
def g415B1 : ACode :=
  (.seq
   (.reg [⟨some 53, none, [.t 52, .t 51], .v (.bin .lss)⟩] [0, 4, 10, 50, 51, 52, 53])
   (.seq
    (.cond (.t 53)
     .skip
     (.exit 2))
    (.seq
     (.block 3
      (.seq
       (.reg [⟨some 54, none, [.t 52], .v (.mv)⟩,
         ⟨some 55, none, [.t 50, .t 52], .v (.iaddr 14)⟩,
         ⟨some 56, none, [.t 55], .v (.loadE 14 true)⟩,
         ⟨some 13, none, [], .alloc 13 [.int .i64 0, .str [], .lst [], .int .i64 0, .int .i64 0, .str [], .int .i64 0, .lst [], .lst [], .int .i64 0, .str [], .int .i64 0, .int .i64 0, .lst []]⟩,
         ⟨some 12, none, [.t 54], .v (.mv)⟩,
         ⟨none, none, [.t 13, .t 56], .storeL 13 0 14⟩] [0, 4, 10, 12, 13, 50, 51, 52])
       (.seq
        (.seq
         (.reg [⟨some 57, none, [.t 13], .v (.faddr 2)⟩,
           ⟨some 58, none, [.t 57], .loadL 13 2 1 false⟩,
           ⟨some 59, none, [.t 58], .v (.len)⟩,
           ⟨some 60, none, [.t 0], .v (.mv)⟩,
           ⟨some 61, none, [.t 10], .v (.mv)⟩,
           ⟨some 62, none, [.t 60, .t 61], .v (.iaddr 4)⟩,
           ⟨some 63, none, [.t 62], .v (.faddr 3)⟩,
           ⟨some 64, none, [.t 63], .v (.loadE 1 false)⟩,
           ⟨some 65, none, [.t 12], .v (.mv)⟩,
           ⟨some 66, none, [.t 64, .t 65], .v (.iaddr 3)⟩,
           ⟨some 67, none, [.t 66], .v (.faddr 2)⟩,
           ⟨some 68, none, [.t 67], .v (.loadE 1 false)⟩,
           ⟨some 69, none, [.t 68], .v (.len)⟩,
           ⟨some 70, none, [.t 59, .t 69], .v (.bin .neq)⟩] [0, 4, 10, 13, 50, 51, 52, 70])
         (.cond (.t 70)
          (.seq
           (.reg [⟨some 71, none, [.t 13], .v (.faddr 0)⟩,
             ⟨some 72, none, [.t 71], .loadL 13 0 1 false⟩,
             ⟨some 73, none, [.c (.pv (.int .i64 8)), .t 72], .v (.build [.int .i64 0, .int .i64 0] [(0, 1), (1, 1)])⟩,
             ⟨none, none, [.t 4, .t 73], .storeL 4 0 2⟩] [4])
           .ret)
          .skip))
        (.seq
         (.reg [⟨some 74, none, [.t 13], .v (.faddr 2)⟩,
           ⟨some 75, none, [.t 74], .loadL 13 2 1 false⟩,
           ⟨some 76, none, [.t 75], .v (.len)⟩,
           ⟨some 77, none, [.c (.pv (.int .i64 0))], .v (.mv)⟩] [0, 4, 10, 13, 50, 51, 52, 75, 76, 77])
         (.block 4
          g415L2)))))
     (.reg [⟨some 92, none, [.t 52, .c (.pv (.int .i64 1))], .v (.bin .add)⟩,
       ⟨some 52, none, [.t 92], .v (.mv)⟩] [0, 4, 10, 50, 51, 52]))))
def g415L1 : ACode := .loop [0, 4, 10, 50, 51, 52] g415B1
theorem g415L1_eq {AP : Nat → Option AFunc} {st : St} : cl AP g415L1 st = after (cl AP g415L1) (cl AP g415B1 (norm (restrict [0, 4, 10, 50, 51, 52] st))) := cl_loop
def g415 : AFunc := ⟨2, 94, [.c 4 2 true],
  (.seq
   (.reg [⟨some 3, none, [.t 1], .box 3 11⟩,
     ⟨some 4, none, [], .alloc 4 [.int .i64 0, .int .i64 0]⟩] [0, 3, 4])
   (.seq
    (.seq
     (.reg [⟨some 16, none, [.t 3], .v (.faddr 5)⟩,
       ⟨some 17, none, [.t 16], .loadL 3 5 1 false⟩,
       ⟨some 18, none, [.t 17], .v (.len)⟩,
       ⟨some 19, none, [.c (.pv (.int .i64 0))], .v (.mv)⟩] [0, 3, 4, 17, 18, 19])
     (.block 0
      g415L0))
    (.seq
     (.reg [⟨some 38, none, [.t 0], .v (.mv)⟩,
       ⟨some 39, none, [.t 3], .v (.faddr 5)⟩,
       ⟨some 40, none, [.t 39], .loadL 3 5 1 false⟩,
       ⟨some 41, none, [.t 38, .t 40], .callP 407⟩,
       ⟨some 37, none, [.t 41], .v (.mv)⟩,
       ⟨some 42, none, [.t 37], .v (.ext 0)⟩,
       ⟨some 43, none, [.t 37], .v (.ext 1)⟩,
       ⟨some 10, none, [.t 42], .v (.mv)⟩,
       ⟨some 11, none, [.t 43], .v (.mv)⟩] [0, 3, 4, 10, 11])
     (.seq
      (.seq
       (.reg [⟨some 44, none, [.t 11], .v (.mv)⟩,
         ⟨some 45, none, [.t 44], .v (.un .not)⟩] [0, 3, 4, 10, 45])
       (.cond (.t 45)
        (.seq
         (.reg [⟨some 46, none, [.t 3], .v (.faddr 1)⟩,
           ⟨some 47, none, [.t 46], .loadL 3 1 1 false⟩,
           ⟨some 48, none, [.c (.pv (.int .i64 10)), .t 47], .v (.build [.int .i64 0, .int .i64 0] [(0, 1), (1, 1)])⟩,
           ⟨none, none, [.t 4, .t 48], .storeL 4 0 2⟩] [4])
         .ret)
        .skip))
      (.seq
       (.seq
        (.reg [⟨some 49, none, [.t 3], .v (.faddr 5)⟩,
          ⟨some 50, none, [.t 49], .loadL 3 5 1 false⟩,
          ⟨some 51, none, [.t 50], .v (.len)⟩,
          ⟨some 52, none, [.c (.pv (.int .i64 0))], .v (.mv)⟩] [0, 4, 10, 50, 51, 52])
        (.block 2
         g415L1))
       (.seq
        (.reg [⟨some 93, none, [], .v (.build [.int .i64 0, .int .i64 0] [])⟩,
          ⟨none, none, [.t 4, .t 93], .storeL 4 0 2⟩] [4])
        .ret)))))), none, false⟩

/- slices.IndexFunc[[]typedholes/api.Data,typedholes/api.Data] -/
def g416B0 : ACode :=
  (.seq
   (.reg [⟨some 9, none, [.t 8, .t 7], .v (.bin .lss)⟩] [0, 1, 7, 8, 9])
   (.seq
    (.cond (.t 9)
     .skip
     (.exit 0))
    (.seq
     (.block 1
      (.seq
       (.reg [⟨some 10, none, [.t 8], .v (.mv)⟩,
         ⟨some 5, none, [.t 10], .v (.mv)⟩] [0, 1, 5, 7, 8])
       (.seq
        (.reg [⟨some 11, none, [.t 1], .v (.mv)⟩,
          ⟨some 12, none, [.t 0], .v (.mv)⟩,
          ⟨some 13, none, [.t 5], .v (.mv)⟩,
          ⟨some 14, none, [.t 12, .t 13], .v (.iaddr 4)⟩,
          ⟨some 15, none, [.t 14], .loadS 4 true⟩,
          ⟨some 16, none, [.t 11, .t 15], .callV⟩] [0, 1, 5, 7, 8, 16])
        (.cond (.t 16)
         (.seq
          (.reg [⟨some 17, none, [.t 5], .v (.mv)⟩,
            ⟨some 4, none, [.t 17], .v (.mv)⟩] [4])
          .ret)
         .skip))))
     (.reg [⟨some 18, none, [.t 8, .c (.pv (.int .i64 1))], .v (.bin .add)⟩,
       ⟨some 8, none, [.t 18], .v (.mv)⟩] [0, 1, 7, 8]))))
def g416L0 : ACode := .loop [0, 1, 7, 8] g416B0
theorem g416L0_eq {AP : Nat → Option AFunc} {st : St} : cl AP g416L0 st = after (cl AP g416L0) (cl AP g416B0 (norm (restrict [0, 1, 7, 8] st))) := cl_loop
def g416 : AFunc := ⟨2, 19, [.t 4],
  (.seq
   (.reg [⟨some 4, none, [.c (.pv (.int .i64 0))], .v (.mv)⟩] [0, 1])
   (.seq
    (.seq
     (.reg [⟨some 6, none, [.t 0], .v (.mv)⟩,
       ⟨some 7, none, [.t 6], .v (.len)⟩,
       ⟨some 8, none, [.c (.pv (.int .i64 0))], .v (.mv)⟩] [0, 1, 7, 8])
     (.block 0
      g416L0))
    (.seq
     (.reg [⟨some 4, none, [.c (.pv (.int .i64 (-1)))], .v (.mv)⟩] [4])
     .ret))), none, false⟩

/- typedholes/scope.Arms$1 -/
def g417 : AFunc := ⟨1, 8, [.t 3],
  (.seq
   (.reg [⟨some 2, none, [.t 0], .box 2 4⟩,
     ⟨some 3, none, [.c (.pv (.bool false))], .v (.mv)⟩] [1, 2])
   (.seq
    (.reg [⟨some 4, none, [.t 2], .v (.faddr 3)⟩,
      ⟨some 5, none, [.t 4], .loadL 2 3 1 false⟩,
      ⟨some 6, none, [.t 1], .loadS 1 false⟩,
      ⟨some 7, none, [.t 5, .t 6, .c (.fn 419 [])], .callI 418 []⟩,
      ⟨some 3, none, [.t 7], .v (.mv)⟩] [3])
    .ret)), none, false⟩

/- slices.EqualFunc[[]typedholes/api.Constructor,[]typedholes/api.Arm,typedholes/api.Constructor,typedholes/api.Arm] -/
def g418B0 : ACode :=
  (.seq
   (.reg [⟨some 18, none, [.t 17, .t 16], .v (.bin .lss)⟩] [1, 2, 15, 16, 17, 18])
   (.seq
    (.cond (.t 18)
     .skip
     (.exit 0))
    (.seq
     (.block 1
      (.seq
       (.reg [⟨some 19, none, [.t 17], .v (.mv)⟩,
         ⟨some 20, none, [.t 15, .t 17], .v (.iaddr 3)⟩,
         ⟨some 21, none, [.t 20], .loadS 3 true⟩,
         ⟨some 8, none, [], .alloc 8 [.int .i64 0, .str [], .lst []]⟩,
         ⟨some 7, none, [.t 19], .v (.mv)⟩,
         ⟨none, none, [.t 8, .t 21], .storeL 8 0 3⟩] [1, 2, 7, 8, 15, 16, 17])
       (.seq
        (.reg [⟨some 22, none, [.t 1], .v (.mv)⟩,
          ⟨some 23, none, [.t 7], .v (.mv)⟩,
          ⟨some 24, none, [.t 22, .t 23], .v (.iaddr 14)⟩,
          ⟨some 25, none, [.t 24], .loadS 14 true⟩,
          ⟨some 9, none, [], .alloc 9 [.int .i64 0, .str [], .lst [], .int .i64 0, .int .i64 0, .str [], .int .i64 0, .lst [], .lst [], .int .i64 0, .str [], .int .i64 0, .int .i64 0, .lst []]⟩,
          ⟨none, none, [.t 9, .t 25], .storeL 9 0 14⟩] [1, 2, 8, 9, 15, 16, 17])
        (.seq
         (.reg [⟨some 26, none, [.t 2], .v (.mv)⟩,
           ⟨some 27, none, [.t 8], .loadL 8 0 3 true⟩,
           ⟨some 28, none, [.t 9], .loadL 9 0 14 true⟩,
           ⟨some 29, none, [.t 26, .t 27, .t 28], .callV⟩,
           ⟨some 30, none, [.t 29], .v (.un .not)⟩] [1, 2, 15, 16, 17, 30])
         (.cond (.t 30)
          (.seq
           (.reg [⟨some 6, none, [.c (.pv (.bool false))], .v (.mv)⟩] [6])
           .ret)
          .skip)))))
     (.reg [⟨some 31, none, [.t 17, .c (.pv (.int .i64 1))], .v (.bin .add)⟩,
       ⟨some 17, none, [.t 31], .v (.mv)⟩] [1, 2, 15, 16, 17]))))
def g418L0 : ACode := .loop [1, 2, 15, 16, 17] g418B0
theorem g418L0_eq {AP : Nat → Option AFunc} {st : St} : cl AP g418L0 st = after (cl AP g418L0) (cl AP g418B0 (norm (restrict [1, 2, 15, 16, 17] st))) := cl_loop
def g418 : AFunc := ⟨3, 32, [.t 6],
  (.seq
   (.reg [⟨some 6, none, [.c (.pv (.bool false))], .v (.mv)⟩] [0, 1, 2])
   (.seq
    (.seq
     (.reg [⟨some 10, none, [.t 0], .v (.mv)⟩,
       ⟨some 11, none, [.t 10], .v (.len)⟩,
       ⟨some 12, none, [.t 1], .v (.mv)⟩,
       ⟨some 13, none, [.t 12], .v (.len)⟩,
       ⟨some 14, none, [.t 11, .t 13], .v (.bin .neq)⟩] [0, 1, 2, 14])
     (.cond (.t 14)
      (.seq
       (.reg [⟨some 6, none, [.c (.pv (.bool false))], .v (.mv)⟩] [6])
       .ret)
      .skip))
    (.seq
     (.seq
      (.reg [⟨some 15, none, [.t 0], .v (.mv)⟩,
        ⟨some 16, none, [.t 15], .v (.len)⟩,
        ⟨some 17, none, [.c (.pv (.int .i64 0))], .v (.mv)⟩] [1, 2, 15, 16, 17])
      (.block 0
       g418L0))
     (.seq
      (.reg [⟨some 6, none, [.c (.pv (.bool true))], .v (.mv)⟩] [6])
      .ret)))), none, false⟩

/- typedholes/scope.Arms$1$1 -/
def g419 : AFunc := ⟨2, 10, [.t 4],
  (.seq
   (.reg [⟨some 2, none, [.t 0], .box 2 3⟩,
     ⟨some 3, none, [.t 1], .box 3 14⟩,
     ⟨some 4, none, [.c (.pv (.bool false))], .v (.mv)⟩] [2, 3])
   (.seq
    (.reg [⟨some 5, none, [.t 2], .v (.faddr 1)⟩,
      ⟨some 6, none, [.t 5], .loadL 2 1 1 false⟩,
      ⟨some 7, none, [.t 3], .v (.faddr 1)⟩,
      ⟨some 8, none, [.t 7], .loadL 3 1 1 false⟩,
      ⟨some 9, none, [.t 6, .t 8], .v (.bin .eql)⟩,
      ⟨some 4, none, [.t 9], .v (.mv)⟩] [4])
    .ret)), none, false⟩

/- slices.IndexFunc[[]string,string] -/
def g421B0 : ACode :=
  (.seq
   (.reg [⟨some 9, none, [.t 8, .t 7], .v (.bin .lss)⟩] [0, 1, 7, 8, 9])
   (.seq
    (.cond (.t 9)
     .skip
     (.exit 0))
    (.seq
     (.block 1
      (.seq
       (.reg [⟨some 10, none, [.t 8], .v (.mv)⟩,
         ⟨some 5, none, [.t 10], .v (.mv)⟩] [0, 1, 5, 7, 8])
       (.seq
        (.reg [⟨some 11, none, [.t 1], .v (.mv)⟩,
          ⟨some 12, none, [.t 0], .v (.mv)⟩,
          ⟨some 13, none, [.t 5], .v (.mv)⟩,
          ⟨some 14, none, [.t 12, .t 13], .v (.iaddr 1)⟩,
          ⟨some 15, none, [.t 14], .loadS 1 false⟩,
          ⟨some 16, none, [.t 11, .t 15], .callV⟩] [0, 1, 5, 7, 8, 16])
        (.cond (.t 16)
         (.seq
          (.reg [⟨some 17, none, [.t 5], .v (.mv)⟩,
            ⟨some 4, none, [.t 17], .v (.mv)⟩] [4])
          .ret)
         .skip))))
     (.reg [⟨some 18, none, [.t 8, .c (.pv (.int .i64 1))], .v (.bin .add)⟩,
       ⟨some 8, none, [.t 18], .v (.mv)⟩] [0, 1, 7, 8]))))
def g421L0 : ACode := .loop [0, 1, 7, 8] g421B0
theorem g421L0_eq {AP : Nat → Option AFunc} {st : St} : cl AP g421L0 st = after (cl AP g421L0) (cl AP g421B0 (norm (restrict [0, 1, 7, 8] st))) := cl_loop
def g421 : AFunc := ⟨2, 19, [.t 4],
  (.seq
   (.reg [⟨some 4, none, [.c (.pv (.int .i64 0))], .v (.mv)⟩] [0, 1])
   (.seq
    (.seq
     (.reg [⟨some 6, none, [.t 0], .v (.mv)⟩,
       ⟨some 7, none, [.t 6], .v (.len)⟩,
       ⟨some 8, none, [.c (.pv (.int .i64 0))], .v (.mv)⟩] [0, 1, 7, 8])
     (.block 0
      g421L0))
    (.seq
     (.reg [⟨some 4, none, [.c (.pv (.int .i64 (-1)))], .v (.mv)⟩] [4])
     .ret))), none, false⟩

/- typedholes/typedholeslaw10.ScopeVisible -/
def g424B0 : ACode :=
  (.seq
   (.seq
    (.reg [⟨some 39, none, [.t 13], .v (.mv)⟩,
      ⟨some 40, none, [.t 2], .v (.mv)⟩,
      ⟨some 41, none, [.t 40], .v (.len)⟩,
      ⟨some 42, none, [.t 39, .t 41], .v (.bin .lss)⟩] [2, 3, 10, 11, 12, 13, 42])
    (.cond (.t 42)
     .skip
     (.exit 0)))
   (.seq
    (.block 1
     (.seq
      (.reg [⟨some 45, none, [.t 11], .loadL 11 0 11 true⟩,
        ⟨some 46, none, [.t 45], .callP 145⟩,
        ⟨some 14, none, [.t 46], .v (.mv)⟩] [2, 3, 10, 11, 12, 13, 14])
      (.seq
       (.seq
        (.reg [⟨some 47, none, [.t 14], .v (.mv)⟩,
          ⟨some 48, none, [.t 47], .v (.len)⟩,
          ⟨some 49, none, [.t 48, .c (.pv (.int .i64 0))], .v (.bin .eql)⟩] [2, 3, 10, 11, 12, 13, 14, 49])
        (.cond (.t 49)
         (.exit 0)
         .skip))
       (.seq
        (.reg [⟨some 50, none, [.t 2], .v (.mv)⟩,
          ⟨some 51, none, [.t 13], .v (.mv)⟩,
          ⟨some 52, none, [.t 50, .t 51], .v (.iaddr 1)⟩,
          ⟨some 53, none, [.t 52], .v (.loadE 1 false)⟩,
          ⟨some 54, none, [.t 14], .v (.mv)⟩,
          ⟨some 55, none, [.t 54], .v (.len)⟩,
          ⟨some 56, none, [.t 53, .t 55], .callP 26⟩,
          ⟨some 15, none, [.t 56], .v (.mv)⟩] [2, 3, 10, 11, 12, 13, 14, 15])
        (.reg [⟨some 57, none, [.t 12], .v (.mv)⟩,
          ⟨some 58, none, [.t 15], .v (.mv)⟩,
          ⟨some 59, none, [.t 58], .v (.bslice 1)⟩,
          ⟨some 60, none, [.t 57, .t 59], .append 1 8⟩,
          ⟨some 61, none, [.t 14], .v (.mv)⟩,
          ⟨some 62, none, [.t 15], .v (.mv)⟩,
          ⟨some 63, none, [.t 61, .t 62], .v (.iaddr 11)⟩,
          ⟨some 64, none, [.t 63], .v (.loadE 11 true)⟩,
          ⟨some 12, none, [.t 60], .v (.mv)⟩,
          ⟨none, none, [.t 11, .t 64], .storeL 11 0 11⟩] [2, 3, 10, 11, 12, 13])))))
    (.reg [⟨some 43, none, [.t 13], .v (.mv)⟩,
      ⟨some 44, none, [.t 43, .c (.pv (.int .i64 1))], .v (.bin .add)⟩,
      ⟨some 13, none, [.t 44], .v (.mv)⟩] [2, 3, 10, 11, 12, 13])))
def g424L0 : ACode := .loop [2, 3, 10, 11, 12, 13] g424B0
theorem g424L0_eq {AP : Nat → Option AFunc} {st : St} : cl AP g424L0 st = after (cl AP g424L0) (cl AP g424B0 (norm (restrict [2, 3, 10, 11, 12, 13] st))) := cl_loop
def g424 : AFunc := ⟨4, 81, [.t 8],
  (.seq
   (.reg [⟨some 8, none, [.c (.pv (.bool false))], .v (.mv)⟩] [0, 1, 2, 3])
   (.seq
    (.seq
     (.reg [⟨some 16, none, [], .callP 401⟩,
       ⟨some 17, none, [.t 16], .v (.un .not)⟩] [0, 1, 2, 3, 17])
     (.cond (.t 17)
      (.seq
       (.reg [⟨some 8, none, [.c (.pv (.bool false))], .v (.mv)⟩] [8])
       .ret)
      .skip))
    (.seq
     (.seq
      (.reg [⟨some 18, none, [.t 1], .v (.mv)⟩,
        ⟨some 19, none, [.t 18], .callP 15⟩,
        ⟨some 20, none, [.t 19], .v (.un .not)⟩,
        ⟨some 21, none, [.t 20], .v (.mv)⟩,
        ⟨some 22, some (21, false), [.t 2], .v (.mv)⟩,
        ⟨some 23, some (21, false), [.t 22], .v (.len)⟩,
        ⟨some 24, some (21, false), [.t 23, .c (.pv (.int .i64 10))], .v (.bin .gtr)⟩,
        ⟨some 25, none, [.t 21, .c (.pv (.bool true)), .t 24], .v (.pick)⟩,
        ⟨some 26, none, [.t 25], .v (.mv)⟩,
        ⟨some 27, some (26, false), [.t 3], .v (.mv)⟩,
        ⟨some 28, some (26, false), [.t 27], .v (.len)⟩,
        ⟨some 29, some (26, false), [.t 28, .c (.pv (.int .i64 5))], .v (.bin .gtr)⟩,
        ⟨some 30, none, [.t 26, .c (.pv (.bool true)), .t 29], .v (.pick)⟩] [0, 1, 2, 3, 30])
      (.cond (.t 30)
       (.seq
        (.reg [⟨some 8, none, [.c (.pv (.bool true))], .v (.mv)⟩] [8])
        .ret)
       .skip))
     (.seq
      (.reg [⟨some 31, none, [.t 1], .v (.mv)⟩,
        ⟨some 32, none, [.t 31], .v (.build [.lst [], .int .i64 0] [(0, 1)])⟩,
        ⟨some 33, none, [.t 32], .boxS 2⟩,
        ⟨some 9, none, [.t 33], .v (.mv)⟩] [0, 2, 3, 9])
      (.seq
       (.reg [⟨some 34, none, [.t 9], .v (.mv)⟩,
         ⟨some 35, none, [.t 0], .v (.mv)⟩,
         ⟨some 36, none, [.t 35], .callP 32⟩,
         ⟨some 37, none, [.t 34, .t 36, .c (.pv (.int .i64 5))], .callI 247 []⟩,
         ⟨some 10, none, [], .alloc 10 [.int .i64 0, .int .i64 0, .str [], .int .i64 0, .lst [], .lst [], .int .i64 0, .str [], .int .i64 0, .int .i64 0, .lst []]⟩,
         ⟨none, none, [.t 10, .t 37], .storeL 10 0 11⟩] [2, 3, 10])
       (.seq
        (.reg [⟨some 38, none, [.t 10], .loadL 10 0 11 true⟩,
          ⟨some 11, none, [], .alloc 11 [.int .i64 0, .int .i64 0, .str [], .int .i64 0, .lst [], .lst [], .int .i64 0, .str [], .int .i64 0, .int .i64 0, .lst []]⟩,
          ⟨none, none, [.t 11, .t 38], .storeL 11 0 11⟩] [2, 3, 10, 11])
        (.seq
         (.reg [⟨some 12, none, [.c (.clp [])], .v (.mv)⟩] [2, 3, 10, 11, 12])
         (.seq
          (.seq
           (.reg [⟨some 13, none, [.c (.pv (.int .i64 0))], .v (.mv)⟩] [2, 3, 10, 11, 12, 13])
           (.block 0
            g424L0))
          (.seq
           (.reg [⟨some 65, none, [.t 10], .loadL 10 0 11 true⟩,
             ⟨some 66, none, [.t 12], .v (.mv)⟩,
             ⟨some 67, none, [.t 65, .t 66], .callP 404⟩,
             ⟨some 68, none, [.t 10], .loadL 10 0 11 true⟩,
             ⟨some 69, none, [.t 12], .v (.mv)⟩,
             ⟨some 70, none, [.t 68, .t 69], .callP 432⟩,
             ⟨some 71, none, [.t 67, .t 70], .callP 408⟩,
             ⟨some 72, none, [.t 71], .v (.mv)⟩,
             ⟨some 73, some (72, true), [.t 10], .loadL 10 0 11 true⟩,
             ⟨some 74, some (72, true), [.t 3], .v (.mv)⟩,
             ⟨some 75, some (72, true), [.t 73, .t 74], .callP 404⟩,
             ⟨some 76, some (72, true), [.t 10], .loadL 10 0 11 true⟩,
             ⟨some 77, some (72, true), [.t 3], .v (.mv)⟩,
             ⟨some 78, some (72, true), [.t 76, .t 77], .callP 432⟩,
             ⟨some 79, some (72, true), [.t 75, .t 78], .callP 408⟩,
             ⟨some 80, none, [.t 72, .t 79, .c (.pv (.bool false))], .v (.pick)⟩,
             ⟨some 8, none, [.t 80], .v (.mv)⟩] [8])
           .ret))))))))), none, false⟩

/- typedholes/typedholesref10.Visible -/
def g432B0 : ACode :=
  (.seq
   (.seq
    (.reg [⟨some 17, none, [.t 8], .v (.mv)⟩,
      ⟨some 18, none, [.t 1], .v (.mv)⟩,
      ⟨some 19, none, [.t 18], .v (.len)⟩,
      ⟨some 20, none, [.t 17, .t 19], .v (.bin .lss)⟩] [1, 2, 7, 8, 20])
    (.cond (.t 20)
     .skip
     (.exit 0)))
   (.seq
    (.block 1
     (.seq
      (.reg [⟨some 23, none, [.t 7], .v (.mv)⟩,
        ⟨some 24, none, [.t 2], .loadL 2 0 11 true⟩,
        ⟨some 25, none, [.t 1], .v (.mv)⟩,
        ⟨some 26, none, [.t 8], .v (.mv)⟩,
        ⟨some 27, none, [.t 25, .t 26], .v (.iaddr 1)⟩,
        ⟨some 28, none, [.t 27], .v (.loadE 1 false)⟩,
        ⟨some 29, none, [.t 24, .t 28], .callP 380⟩,
        ⟨some 30, none, [.t 23, .t 29], .append 1 16⟩,
        ⟨some 7, none, [.t 30], .v (.mv)⟩] [1, 2, 7, 8])
      (.reg [⟨some 31, none, [.t 2], .loadL 2 0 11 true⟩,
        ⟨some 32, none, [.t 31], .callP 145⟩,
        ⟨some 33, none, [.t 1], .v (.mv)⟩,
        ⟨some 34, none, [.t 8], .v (.mv)⟩,
        ⟨some 35, none, [.t 33, .t 34], .v (.iaddr 1)⟩,
        ⟨some 36, none, [.t 35], .v (.loadE 1 false)⟩,
        ⟨some 37, none, [.t 32, .t 36], .v (.iaddr 11)⟩,
        ⟨some 38, none, [.t 37], .v (.loadE 11 true)⟩,
        ⟨none, none, [.t 2, .t 38], .storeL 2 0 11⟩] [1, 2, 7, 8])))
    (.reg [⟨some 21, none, [.t 8], .v (.mv)⟩,
      ⟨some 22, none, [.t 21, .c (.pv (.int .i64 1))], .v (.bin .add)⟩,
      ⟨some 8, none, [.t 22], .v (.mv)⟩] [1, 2, 7, 8])))
def g432L0 : ACode := .loop [1, 2, 7, 8] g432B0
theorem g432L0_eq {AP : Nat → Option AFunc} {st : St} : cl AP g432L0 st = after (cl AP g432L0) (cl AP g432B0 (norm (restrict [1, 2, 7, 8] st))) := cl_loop
def g432 : AFunc := ⟨2, 41, [.t 4],
  (.seq
   (.reg [⟨some 2, none, [.t 0], .box 2 11⟩,
     ⟨some 4, none, [.c (.clp [])], .v (.mv)⟩] [1, 2])
   (.seq
    (.seq
     (.reg [⟨some 10, none, [.t 2], .loadL 2 0 11 true⟩,
       ⟨some 11, none, [.t 1], .v (.mv)⟩,
       ⟨some 12, none, [.t 10, .t 11], .callP 439⟩,
       ⟨some 9, none, [.t 12], .v (.mv)⟩,
       ⟨some 13, none, [.t 9], .v (.ext 0)⟩,
       ⟨some 14, none, [.t 9], .v (.ext 1)⟩,
       ⟨some 5, none, [], .alloc 5 [.int .i64 0, .int .i64 0, .str [], .int .i64 0, .lst [], .lst [], .int .i64 0, .str [], .int .i64 0, .int .i64 0, .lst []]⟩,
       ⟨none, none, [.t 5, .t 13], .storeL 5 0 11⟩,
       ⟨some 6, none, [.t 14], .v (.mv)⟩] [1, 2, 6])
     (.seq
      (.reg [⟨some 15, none, [.t 6], .v (.mv)⟩,
        ⟨some 16, none, [.t 15], .v (.un .not)⟩] [1, 2, 16])
      (.cond (.t 16)
       (.seq
        (.reg [⟨some 4, none, [.c (.clp [])], .v (.mv)⟩] [4])
        .ret)
       .skip)))
    (.seq
     (.reg [⟨some 7, none, [.c (.clp [])], .v (.mv)⟩] [1, 2, 7])
     (.seq
      (.seq
       (.reg [⟨some 8, none, [.c (.pv (.int .i64 0))], .v (.mv)⟩] [1, 2, 7, 8])
       (.block 0
        g432L0))
      (.seq
       (.reg [⟨some 39, none, [.t 7], .v (.mv)⟩,
         ⟨some 40, none, [.t 39], .callP 440⟩,
         ⟨some 4, none, [.t 40], .v (.mv)⟩] [4])
       .ret))))), none, false⟩

/- typedholes/typedholesref4.At -/
def g439B0 : ACode :=
  (.seq
   (.seq
    (.reg [⟨some 8, none, [.t 6], .v (.mv)⟩,
      ⟨some 9, none, [.t 1], .v (.mv)⟩,
      ⟨some 10, none, [.t 9], .v (.len)⟩,
      ⟨some 11, none, [.t 8, .t 10], .v (.bin .lss)⟩] [1, 2, 4, 6, 11])
    (.cond (.t 11)
     .skip
     (.exit 0)))
   (.seq
    (.block 1
     (.seq
      (.reg [⟨some 14, none, [.t 2], .loadL 2 0 11 true⟩,
        ⟨some 15, none, [.t 14], .callP 145⟩,
        ⟨some 7, none, [.t 15], .v (.mv)⟩] [1, 2, 4, 6, 7])
      (.seq
       (.seq
        (.reg [⟨some 16, none, [.t 1], .v (.mv)⟩,
          ⟨some 17, none, [.t 6], .v (.mv)⟩,
          ⟨some 18, none, [.t 16, .t 17], .v (.iaddr 1)⟩,
          ⟨some 19, none, [.t 18], .v (.loadE 1 false)⟩,
          ⟨some 20, none, [.t 19, .c (.pv (.int .i64 0))], .v (.bin .lss)⟩,
          ⟨some 21, none, [.t 20], .v (.mv)⟩,
          ⟨some 22, some (21, false), [.t 1], .v (.mv)⟩,
          ⟨some 23, some (21, false), [.t 6], .v (.mv)⟩,
          ⟨some 24, some (21, false), [.t 22, .t 23], .v (.iaddr 1)⟩,
          ⟨some 25, some (21, false), [.t 24], .v (.loadE 1 false)⟩,
          ⟨some 26, some (21, false), [.t 7], .v (.mv)⟩,
          ⟨some 27, some (21, false), [.t 26], .v (.len)⟩,
          ⟨some 28, some (21, false), [.t 25, .t 27], .v (.bin .geq)⟩,
          ⟨some 29, none, [.t 21, .c (.pv (.bool true)), .t 28], .v (.pick)⟩] [1, 2, 4, 6, 7, 29])
        (.cond (.t 29)
         (.seq
          (.reg [⟨some 30, none, [], .v (.build [.int .i64 0, .int .i64 0, .str [], .int .i64 0, .lst [], .lst [], .int .i64 0, .str [], .int .i64 0, .int .i64 0, .lst []] [])⟩,
            ⟨none, none, [.t 4, .t 30], .storeL 4 0 11⟩,
            ⟨some 5, none, [.c (.pv (.bool false))], .v (.mv)⟩] [4, 5])
          .ret)
         .skip))
       (.reg [⟨some 31, none, [.t 7], .v (.mv)⟩,
         ⟨some 32, none, [.t 1], .v (.mv)⟩,
         ⟨some 33, none, [.t 6], .v (.mv)⟩,
         ⟨some 34, none, [.t 32, .t 33], .v (.iaddr 1)⟩,
         ⟨some 35, none, [.t 34], .v (.loadE 1 false)⟩,
         ⟨some 36, none, [.t 31, .t 35], .v (.iaddr 11)⟩,
         ⟨some 37, none, [.t 36], .v (.loadE 11 true)⟩,
         ⟨none, none, [.t 2, .t 37], .storeL 2 0 11⟩] [1, 2, 4, 6]))))
    (.reg [⟨some 12, none, [.t 6], .v (.mv)⟩,
      ⟨some 13, none, [.t 12, .c (.pv (.int .i64 1))], .v (.bin .add)⟩,
      ⟨some 6, none, [.t 13], .v (.mv)⟩] [1, 2, 4, 6])))
def g439L0 : ACode := .loop [1, 2, 4, 6] g439B0
theorem g439L0_eq {AP : Nat → Option AFunc} {st : St} : cl AP g439L0 st = after (cl AP g439L0) (cl AP g439B0 (norm (restrict [1, 2, 4, 6] st))) := cl_loop
def g439 : AFunc := ⟨2, 39, [.c 4 11 true, .t 5],
  (.seq
   (.reg [⟨some 2, none, [.t 0], .box 2 11⟩,
     ⟨some 4, none, [], .alloc 4 [.int .i64 0, .int .i64 0, .str [], .int .i64 0, .lst [], .lst [], .int .i64 0, .str [], .int .i64 0, .int .i64 0, .lst []]⟩,
     ⟨some 5, none, [.c (.pv (.bool false))], .v (.mv)⟩] [1, 2, 4])
   (.seq
    (.seq
     (.reg [⟨some 6, none, [.c (.pv (.int .i64 0))], .v (.mv)⟩] [1, 2, 4, 6])
     (.block 0
      g439L0))
    (.seq
     (.reg [⟨some 38, none, [.t 2], .loadL 2 0 11 true⟩,
       ⟨none, none, [.t 4, .t 38], .storeL 4 0 11⟩,
       ⟨some 5, none, [.c (.pv (.bool true))], .v (.mv)⟩] [4, 5])
     .ret))), none, false⟩

/- typedholes/typedholesref10.Last -/
def g440B0 : ACode :=
  (.seq
   (.seq
    (.reg [⟨some 5, none, [.t 4], .v (.mv)⟩,
      ⟨some 6, none, [.t 0], .v (.mv)⟩,
      ⟨some 7, none, [.t 6], .v (.len)⟩,
      ⟨some 8, none, [.t 5, .t 7], .v (.bin .lss)⟩] [0, 3, 4, 8])
    (.cond (.t 8)
     .skip
     (.exit 0)))
   (.seq
    (.block 1
     (.seq
      (.reg [⟨some 11, none, [.t 0], .v (.mv)⟩,
        ⟨some 12, none, [.t 4], .v (.mv)⟩,
        ⟨some 13, none, [.t 12, .c (.pv (.int .i64 1))], .v (.bin .add)⟩,
        ⟨some 14, none, [.t 11, .t 13], .v (.slice false 1 true false false)⟩,
        ⟨some 15, none, [.t 0], .v (.mv)⟩,
        ⟨some 16, none, [.t 4], .v (.mv)⟩,
        ⟨some 17, none, [.t 15, .t 16], .v (.iaddr 1)⟩,
        ⟨some 18, none, [.t 17], .v (.loadE 1 false)⟩,
        ⟨some 19, none, [.t 14, .t 18], .callP 364⟩,
        ⟨some 20, none, [.t 19], .v (.un .not)⟩] [0, 3, 4, 20])
      (.cond (.t 20)
       (.reg [⟨some 21, none, [.t 3], .v (.mv)⟩,
         ⟨some 22, none, [.t 0], .v (.mv)⟩,
         ⟨some 23, none, [.t 4], .v (.mv)⟩,
         ⟨some 24, none, [.t 22, .t 23], .v (.iaddr 1)⟩,
         ⟨some 25, none, [.t 24], .v (.loadE 1 false)⟩,
         ⟨some 26, none, [.t 25], .v (.bslice 1)⟩,
         ⟨some 27, none, [.t 21, .t 26], .append 1 16⟩,
         ⟨some 3, none, [.t 27], .v (.mv)⟩] [0, 3, 4])
       .skip)))
    (.reg [⟨some 9, none, [.t 4], .v (.mv)⟩,
      ⟨some 10, none, [.t 9, .c (.pv (.int .i64 1))], .v (.bin .add)⟩,
      ⟨some 4, none, [.t 10], .v (.mv)⟩] [0, 3, 4])))
def g440L0 : ACode := .loop [0, 3, 4] g440B0
theorem g440L0_eq {AP : Nat → Option AFunc} {st : St} : cl AP g440L0 st = after (cl AP g440L0) (cl AP g440B0 (norm (restrict [0, 3, 4] st))) := cl_loop
def g440 : AFunc := ⟨1, 29, [.t 2],
  (.seq
   (.reg [⟨some 2, none, [.c (.clp [])], .v (.mv)⟩] [0])
   (.seq
    (.reg [⟨some 3, none, [.c (.clp [])], .v (.mv)⟩] [0, 3])
    (.seq
     (.seq
      (.reg [⟨some 4, none, [.c (.pv (.int .i64 0))], .v (.mv)⟩] [0, 3, 4])
      (.block 0
       g440L0))
     (.seq
      (.reg [⟨some 28, none, [.t 3], .v (.mv)⟩,
        ⟨some 2, none, [.t 28], .v (.mv)⟩] [2])
      .ret)))), none, false⟩

/-- All functions. -/
def AP (g : Nat) : Option AFunc := match g with
  | 11 => some g11
  | 15 => some g15
  | 26 => some g26
  | 27 => some g27
  | 32 => some g32
  | 34 => some g34
  | 52 => some g52
  | 62 => some g62
  | 68 => some g68
  | 69 => some g69
  | 77 => some g77
  | 78 => some g78
  | 79 => some g79
  | 106 => some g106
  | 108 => some g108
  | 109 => some g109
  | 110 => some g110
  | 111 => some g111
  | 112 => some g112
  | 117 => some g117
  | 118 => some g118
  | 119 => some g119
  | 120 => some g120
  | 121 => some g121
  | 122 => some g122
  | 123 => some g123
  | 124 => some g124
  | 125 => some g125
  | 126 => some g126
  | 127 => some g127
  | 128 => some g128
  | 129 => some g129
  | 130 => some g130
  | 131 => some g131
  | 132 => some g132
  | 133 => some g133
  | 134 => some g134
  | 135 => some g135
  | 136 => some g136
  | 137 => some g137
  | 138 => some g138
  | 139 => some g139
  | 140 => some g140
  | 141 => some g141
  | 142 => some g142
  | 143 => some g143
  | 144 => some g144
  | 145 => some g145
  | 146 => some g146
  | 175 => some g175
  | 185 => some g185
  | 190 => some g190
  | 214 => some g214
  | 215 => some g215
  | 223 => some g223
  | 247 => some g247
  | 250 => some g250
  | 364 => some g364
  | 380 => some g380
  | 400 => some g400
  | 401 => some g401
  | 404 => some g404
  | 405 => some g405
  | 406 => some g406
  | 407 => some g407
  | 408 => some g408
  | 409 => some g409
  | 410 => some g410
  | 411 => some g411
  | 412 => some g412
  | 413 => some g413
  | 414 => some g414
  | 415 => some g415
  | 416 => some g416
  | 417 => some g417
  | 418 => some g418
  | 419 => some g419
  | 421 => some g421
  | 424 => some g424
  | 432 => some g432
  | 439 => some g439
  | 440 => some g440
  | _ => none

end Go.Ab
