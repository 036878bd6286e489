import Derived.Test.YtnncaaakhfaacaaAbEv
import Derived.Test.YtnncaaakhfaacaaCodeA
/-
  The program's functions in slim code, as a program of ours printed them; what they have to do with the given program is proved in the text Impl.
-/
namespace Go.Ab

/- typedholes/typedholesref2.Scan -/
def g118B1 : ACode :=
  (.seq
   (.seq
    (.reg [⟨some 42, none, [.t 5], .v (.mv)⟩,
      ⟨some 43, none, [.t 0], .v (.mv)⟩,
      ⟨some 44, none, [.t 43], .v (.lenS)⟩,
      ⟨some 45, none, [.t 42, .t 44], .v (.bin .lss)⟩,
      ⟨some 46, none, [.t 45], .v (.mv)⟩,
      ⟨some 47, some (46, true), [.t 0], .v (.mv)⟩,
      ⟨some 48, some (46, true), [.t 5], .v (.mv)⟩,
      ⟨some 49, some (46, true), [.t 47, .t 48], .v (.index)⟩,
      ⟨some 50, some (46, true), [.t 49, .c (.pv (.int .u8 10))], .v (.bin .neq)⟩,
      ⟨some 51, none, [.t 46, .t 50, .c (.pv (.bool false))], .v (.pick)⟩] [0, 3, 4, 5, 51])
    (.cond (.t 51)
     .skip
     (.exit 3)))
   (.block 4
    (.reg [⟨some 52, none, [.t 5], .v (.mv)⟩,
      ⟨some 53, none, [.t 52, .c (.pv (.int .i64 1))], .v (.bin .add)⟩,
      ⟨some 5, none, [.t 53], .v (.mv)⟩] [0, 3, 4, 5])))
def g118L1 : ACode := .loop [0, 3, 4, 5] g118B1
theorem g118L1_eq {AP : Nat → Option AFunc} {st : St} : cl AP g118L1 st = after (cl AP g118L1) (cl AP g118B1 (norm (restrict [0, 3, 4, 5] st))) := cl_loop
def g118B2 : ACode :=
  (.seq
   (.seq
    (.reg [⟨some 57, none, [.t 7], .v (.mv)⟩,
      ⟨some 58, none, [.t 0], .v (.mv)⟩,
      ⟨some 59, none, [.t 58], .v (.lenS)⟩,
      ⟨some 60, none, [.t 57, .t 59], .v (.bin .lss)⟩,
      ⟨some 61, none, [.t 60], .v (.mv)⟩,
      ⟨some 62, some (61, true), [.t 0], .v (.mv)⟩,
      ⟨some 63, some (61, true), [.t 7], .v (.mv)⟩,
      ⟨some 64, some (61, true), [.t 62, .t 63], .v (.index)⟩,
      ⟨some 65, some (61, true), [.t 64], .callP 117⟩,
      ⟨some 66, none, [.t 61, .t 65, .c (.pv (.bool false))], .v (.pick)⟩] [0, 3, 4, 5, 7, 66])
    (.cond (.t 66)
     .skip
     (.exit 5)))
   (.block 6
    (.reg [⟨some 67, none, [.t 7], .v (.mv)⟩,
      ⟨some 68, none, [.t 67, .c (.pv (.int .i64 1))], .v (.bin .add)⟩,
      ⟨some 7, none, [.t 68], .v (.mv)⟩] [0, 3, 4, 5, 7])))
def g118L2 : ACode := .loop [0, 3, 4, 5, 7] g118B2
theorem g118L2_eq {AP : Nat → Option AFunc} {st : St} : cl AP g118L2 st = after (cl AP g118L2) (cl AP g118B2 (norm (restrict [0, 3, 4, 5, 7] st))) := cl_loop
def g118B0 : ACode :=
  (.seq
   (.seq
    (.reg [⟨some 13, none, [.t 5], .v (.mv)⟩,
      ⟨some 14, none, [.t 0], .v (.mv)⟩,
      ⟨some 15, none, [.t 14], .v (.lenS)⟩,
      ⟨some 16, none, [.t 13, .t 15], .v (.bin .lss)⟩] [0, 3, 4, 5, 16])
    (.cond (.t 16)
     .skip
     (.exit 0)))
   (.block 1
    (.seq
     (.reg [⟨some 17, none, [.t 0], .v (.mv)⟩,
       ⟨some 18, none, [.t 5], .v (.mv)⟩,
       ⟨some 19, none, [.t 17, .t 18], .v (.index)⟩,
       ⟨some 6, none, [.t 19], .v (.mv)⟩] [0, 3, 4, 5, 6])
     (.seq
      (.reg [⟨some 20, none, [.t 5], .v (.mv)⟩,
        ⟨some 21, none, [.t 20, .c (.pv (.int .i64 1))], .v (.bin .add)⟩,
        ⟨some 7, none, [.t 21], .v (.mv)⟩] [0, 3, 4, 5, 6, 7])
      (.seq
       (.block 2
        (.seq
         (.reg [⟨some 23, none, [.t 6], .v (.mv)⟩,
           ⟨some 24, none, [.t 23, .c (.pv (.int .u8 32))], .v (.bin .eql)⟩,
           ⟨some 25, none, [.t 24], .v (.mv)⟩,
           ⟨some 26, some (25, false), [.t 6], .v (.mv)⟩,
           ⟨some 27, some (25, false), [.t 26, .c (.pv (.int .u8 9))], .v (.bin .eql)⟩,
           ⟨some 28, none, [.t 25, .c (.pv (.bool true)), .t 27], .v (.pick)⟩,
           ⟨some 29, none, [.t 28], .v (.mv)⟩,
           ⟨some 30, some (29, false), [.t 6], .v (.mv)⟩,
           ⟨some 31, some (29, false), [.t 30, .c (.pv (.int .u8 13))], .v (.bin .eql)⟩,
           ⟨some 32, none, [.t 29, .c (.pv (.bool true)), .t 31], .v (.pick)⟩,
           ⟨some 33, none, [.t 32], .v (.mv)⟩,
           ⟨some 34, some (33, false), [.t 6], .v (.mv)⟩,
           ⟨some 35, some (33, false), [.t 34, .c (.pv (.int .u8 10))], .v (.bin .eql)⟩,
           ⟨some 36, none, [.t 33, .c (.pv (.bool true)), .t 35], .v (.pick)⟩,
           ⟨some 22, none, [.t 36], .v (.mv)⟩] [0, 3, 4, 5, 6, 7, 22])
         (.cond (.t 22)
          (.seq
           (.reg [⟨some 37, none, [.t 5], .v (.mv)⟩,
             ⟨some 38, none, [.t 37, .c (.pv (.int .i64 1))], .v (.bin .add)⟩,
             ⟨some 5, none, [.t 38], .v (.mv)⟩] [0, 3, 4, 5])
           (.exit 1))
          (.seq
           (.reg [⟨some 40, none, [.t 6], .v (.mv)⟩,
             ⟨some 41, none, [.t 40, .c (.pv (.int .u8 35))], .v (.bin .eql)⟩,
             ⟨some 39, none, [.t 41], .v (.mv)⟩] [0, 3, 4, 5, 6, 7, 39])
           (.cond (.t 39)
            (.seq
             (.block 3
              g118L1)
             (.exit 1))
            (.seq
             (.reg [⟨some 55, none, [.t 6], .v (.mv)⟩,
               ⟨some 56, none, [.t 55], .callP 117⟩,
               ⟨some 54, none, [.t 56], .v (.mv)⟩] [0, 3, 4, 5, 6, 7, 54])
             (.cond (.t 54)
              (.block 5
               g118L2)
              (.seq
               (.reg [⟨some 70, none, [.t 6], .v (.mv)⟩,
                 ⟨some 71, none, [.t 70, .c (.pv (.int .u8 45))], .v (.bin .eql)⟩,
                 ⟨some 72, none, [.t 71], .v (.mv)⟩,
                 ⟨some 73, some (72, true), [.t 7], .v (.mv)⟩,
                 ⟨some 74, some (72, true), [.t 0], .v (.mv)⟩,
                 ⟨some 75, some (72, true), [.t 74], .v (.lenS)⟩,
                 ⟨some 76, some (72, true), [.t 73, .t 75], .v (.bin .lss)⟩,
                 ⟨some 77, none, [.t 72, .t 76, .c (.pv (.bool false))], .v (.pick)⟩,
                 ⟨some 78, none, [.t 77], .v (.mv)⟩,
                 ⟨some 79, some (78, true), [.t 0], .v (.mv)⟩,
                 ⟨some 80, some (78, true), [.t 7], .v (.mv)⟩,
                 ⟨some 81, some (78, true), [.t 79, .t 80], .v (.index)⟩,
                 ⟨some 82, some (78, true), [.t 81, .c (.pv (.int .u8 62))], .v (.bin .eql)⟩,
                 ⟨some 83, none, [.t 78, .t 82, .c (.pv (.bool false))], .v (.pick)⟩,
                 ⟨some 69, none, [.t 83], .v (.mv)⟩] [0, 3, 4, 5, 7, 69])
               (.cond (.t 69)
                (.reg [⟨some 84, none, [.t 7], .v (.mv)⟩,
                  ⟨some 85, none, [.t 84, .c (.pv (.int .i64 1))], .v (.bin .add)⟩,
                  ⟨some 7, none, [.t 85], .v (.mv)⟩] [0, 3, 4, 5, 7])
                .skip)))))))))
       (.seq
        (.reg [⟨some 86, none, [.t 0], .v (.mv)⟩,
          ⟨some 87, none, [.t 5], .v (.mv)⟩,
          ⟨some 88, none, [.t 7], .v (.mv)⟩,
          ⟨some 89, none, [.t 86, .t 87, .t 88], .v (.slice true 0 true true false)⟩,
          ⟨some 90, none, [.t 89], .callP 125⟩,
          ⟨some 8, none, [.t 90], .v (.mv)⟩] [0, 3, 4, 5, 7, 8])
        (.seq
         (.seq
          (.reg [⟨some 91, none, [.t 8], .v (.mv)⟩,
            ⟨some 92, none, [.t 91, .c (.pv (.int .i64 0))], .v (.bin .eql)⟩] [0, 3, 4, 5, 7, 8, 92])
          (.cond (.t 92)
           (.seq
            (.reg [⟨some 93, none, [.t 5], .v (.mv)⟩,
              ⟨some 94, none, [.c (.pv (.int .i64 2)), .t 93], .v (.build [.int .i64 0, .int .i64 0] [(0, 1), (1, 1)])⟩,
              ⟨some 2, none, [.c (.clp [])], .v (.mv)⟩,
              ⟨none, none, [.t 3, .t 94], .storeL 3 0 2⟩] [2, 3])
            .ret)
           .skip))
         (.seq
          (.reg [⟨some 95, none, [.t 4], .v (.mv)⟩,
            ⟨some 96, none, [.t 8], .v (.mv)⟩,
            ⟨some 97, none, [.t 0], .v (.mv)⟩,
            ⟨some 98, none, [.t 5], .v (.mv)⟩,
            ⟨some 99, none, [.t 7], .v (.mv)⟩,
            ⟨some 100, none, [.t 97, .t 98, .t 99], .v (.slice true 0 true true false)⟩,
            ⟨some 101, none, [.t 5], .v (.mv)⟩,
            ⟨some 102, none, [.t 96, .t 100, .t 101], .v (.build [.int .i64 0, .str [], .int .i64 0] [(0, 1), (1, 1), (2, 1)])⟩,
            ⟨some 103, none, [.t 102], .v (.bslice 3)⟩,
            ⟨some 104, none, [.t 95, .t 103], .append 3 32⟩,
            ⟨some 4, none, [.t 104], .v (.mv)⟩] [0, 3, 4, 7])
          (.reg [⟨some 105, none, [.t 7], .v (.mv)⟩,
            ⟨some 5, none, [.t 105], .v (.mv)⟩] [0, 3, 4, 5])))))))))
def g118L0 : ACode := .loop [0, 3, 4, 5] g118B0
theorem g118L0_eq {AP : Nat → Option AFunc} {st : St} : cl AP g118L0 st = after (cl AP g118L0) (cl AP g118B0 (norm (restrict [0, 3, 4, 5] st))) := cl_loop
def g118 : AFunc := ⟨1, 108, [.t 2, .c 3 2 true],
  (.seq
   (.reg [⟨some 2, none, [.c (.clp [])], .v (.mv)⟩,
     ⟨some 3, none, [], .alloc 3 [.int .i64 0, .int .i64 0]⟩] [0, 3])
   (.seq
    (.seq
     (.reg [⟨some 9, none, [.t 0], .v (.mv)⟩,
       ⟨some 10, none, [.t 9], .v (.lenS)⟩,
       ⟨some 11, none, [.t 10, .c (.pv (.int .i64 4000))], .v (.bin .gtr)⟩] [0, 3, 11])
     (.cond (.t 11)
      (.seq
       (.reg [⟨some 12, none, [.c (.pv (.int .i64 1))], .v (.build [.int .i64 0, .int .i64 0] [(0, 1)])⟩,
         ⟨some 2, none, [.c (.clp [])], .v (.mv)⟩,
         ⟨none, none, [.t 3, .t 12], .storeL 3 0 2⟩] [2, 3])
       .ret)
      .skip))
    (.seq
     (.reg [⟨some 4, none, [.c (.clp [])], .v (.mv)⟩] [0, 3, 4])
     (.seq
      (.seq
       (.reg [⟨some 5, none, [.c (.pv (.int .i64 0))], .v (.mv)⟩] [0, 3, 4, 5])
       (.block 0
        g118L0))
      (.seq
       (.reg [⟨some 106, none, [.t 4], .v (.mv)⟩,
         ⟨some 107, none, [], .v (.build [.int .i64 0, .int .i64 0] [])⟩,
         ⟨some 2, none, [.t 106], .v (.mv)⟩,
         ⟨none, none, [.t 3, .t 107], .storeL 3 0 2⟩] [2, 3])
       .ret)))))⟩

/- typedholes/typedholesref5.New -/
def g119 : AFunc := ⟨2, 19, [.t 4],
  (.seq
   (.reg [⟨some 4, none, [.c (.nilp)], .v (.mv)⟩] [0, 1])
   (.seq
    (.seq
     (.reg [⟨some 5, none, [.t 1], .v (.mv)⟩,
       ⟨some 6, none, [.t 5, .c (.pv (.int .i64 0))], .v (.bin .lss)⟩,
       ⟨some 7, none, [.t 6], .v (.mv)⟩,
       ⟨some 8, some (7, false), [.t 1], .v (.mv)⟩,
       ⟨some 9, some (7, false), [.t 0], .v (.mv)⟩,
       ⟨some 10, some (7, false), [.t 9], .v (.len)⟩,
       ⟨some 11, some (7, false), [.t 8, .t 10], .v (.bin .gtr)⟩,
       ⟨some 12, none, [.t 7, .c (.pv (.bool true)), .t 11], .v (.pick)⟩] [0, 1, 12])
     (.cond (.t 12)
      (.reg [⟨some 13, none, [.t 0], .v (.mv)⟩,
        ⟨some 14, none, [.t 13], .v (.len)⟩,
        ⟨some 1, none, [.t 14], .v (.mv)⟩] [0, 1])
      .skip))
    (.seq
     (.reg [⟨some 15, none, [.t 0], .v (.mv)⟩,
       ⟨some 16, none, [.t 1], .v (.mv)⟩,
       ⟨some 17, none, [.t 15, .t 16], .v (.build [.lst [], .int .i64 0, .bool false, .int .i64 0] [(0, 1), (1, 1)])⟩,
       ⟨some 18, none, [.t 17], .boxS 4⟩,
       ⟨some 4, none, [.t 18], .v (.mv)⟩] [4])
     .ret)))⟩

/- (*typedholes/typedholesref5.Reader).Is -/
def g120 : AFunc := ⟨2, 65, [.t 4],
  (.seq
   (.reg [⟨some 4, none, [.c (.pv (.bool false))], .v (.mv)⟩] [0, 1])
   (.seq
    (.reg [⟨some 5, none, [.t 0], .v (.mv)⟩,
      ⟨some 6, none, [.t 5], .v (.nilchk)⟩,
      ⟨some 7, none, [.t 6], .v (.faddr 2)⟩,
      ⟨some 8, none, [.t 7], .loadS 1 false⟩,
      ⟨some 9, none, [.t 8], .v (.un .not)⟩,
      ⟨some 10, none, [.t 9], .v (.mv)⟩,
      ⟨some 11, some (10, true), [.t 0], .v (.mv)⟩,
      ⟨some 12, some (10, true), [.t 11], .v (.nilchk)⟩,
      ⟨some 13, some (10, true), [.t 12], .v (.faddr 1)⟩,
      ⟨some 14, some (10, true), [.t 13], .loadS 1 false⟩,
      ⟨some 15, some (10, true), [.t 0], .v (.mv)⟩,
      ⟨some 16, some (10, true), [.t 15], .v (.nilchk)⟩,
      ⟨some 17, some (10, true), [.t 16], .v (.faddr 0)⟩,
      ⟨some 18, some (10, true), [.t 17], .loadS 1 false⟩,
      ⟨some 19, some (10, true), [.t 18], .v (.len)⟩,
      ⟨some 20, some (10, true), [.t 14, .t 19], .v (.bin .lss)⟩,
      ⟨some 21, none, [.t 10, .t 20, .c (.pv (.bool false))], .v (.pick)⟩,
      ⟨some 22, none, [.t 21], .v (.mv)⟩,
      ⟨some 23, some (22, true), [.t 0], .v (.mv)⟩,
      ⟨some 24, some (22, true), [.t 23], .v (.nilchk)⟩,
      ⟨some 25, some (22, true), [.t 24], .v (.faddr 0)⟩,
      ⟨some 26, some (22, true), [.t 25], .loadS 1 false⟩,
      ⟨some 27, some (22, true), [.t 0], .v (.mv)⟩,
      ⟨some 28, some (22, true), [.t 27], .v (.nilchk)⟩,
      ⟨some 29, some (22, true), [.t 28], .v (.faddr 1)⟩,
      ⟨some 30, some (22, true), [.t 29], .loadS 1 false⟩,
      ⟨some 31, some (22, true), [.t 26, .t 30], .v (.iaddr 3)⟩,
      ⟨some 32, some (22, true), [.t 31], .v (.faddr 0)⟩,
      ⟨some 33, some (22, true), [.t 32], .v (.loadE 1 false)⟩,
      ⟨some 34, some (22, true), [.t 33, .c (.pv (.int .i64 5))], .v (.bin .eql)⟩,
      ⟨some 35, some (22, true), [.t 34], .v (.mv)⟩,
      ⟨some 36, some (35, false), [.t 0], .v (.mv)⟩,
      ⟨some 37, some (35, false), [.t 36], .v (.nilchk)⟩,
      ⟨some 38, some (35, false), [.t 37], .v (.faddr 0)⟩,
      ⟨some 39, some (35, false), [.t 38], .loadS 1 false⟩,
      ⟨some 40, some (35, false), [.t 0], .v (.mv)⟩,
      ⟨some 41, some (35, false), [.t 40], .v (.nilchk)⟩,
      ⟨some 42, some (35, false), [.t 41], .v (.faddr 1)⟩,
      ⟨some 43, some (35, false), [.t 42], .loadS 1 false⟩,
      ⟨some 44, some (35, false), [.t 39, .t 43], .v (.iaddr 3)⟩,
      ⟨some 45, some (35, false), [.t 44], .v (.faddr 0)⟩,
      ⟨some 46, some (35, false), [.t 45], .v (.loadE 1 false)⟩,
      ⟨some 47, some (35, false), [.t 46, .c (.pv (.int .i64 4))], .v (.bin .eql)⟩,
      ⟨some 48, some (22, true), [.t 35, .c (.pv (.bool true)), .t 47], .v (.pick)⟩,
      ⟨some 49, none, [.t 22, .t 48, .c (.pv (.bool false))], .v (.pick)⟩,
      ⟨some 50, none, [.t 49], .v (.mv)⟩,
      ⟨some 51, some (50, true), [.t 0], .v (.mv)⟩,
      ⟨some 52, some (50, true), [.t 51], .v (.nilchk)⟩,
      ⟨some 53, some (50, true), [.t 52], .v (.faddr 0)⟩,
      ⟨some 54, some (50, true), [.t 53], .loadS 1 false⟩,
      ⟨some 55, some (50, true), [.t 0], .v (.mv)⟩,
      ⟨some 56, some (50, true), [.t 55], .v (.nilchk)⟩,
      ⟨some 57, some (50, true), [.t 56], .v (.faddr 1)⟩,
      ⟨some 58, some (50, true), [.t 57], .loadS 1 false⟩,
      ⟨some 59, some (50, true), [.t 54, .t 58], .v (.iaddr 3)⟩,
      ⟨some 60, some (50, true), [.t 59], .v (.faddr 1)⟩,
      ⟨some 61, some (50, true), [.t 60], .v (.loadE 1 false)⟩,
      ⟨some 62, some (50, true), [.t 1], .v (.mv)⟩,
      ⟨some 63, some (50, true), [.t 61, .t 62], .v (.bin .eql)⟩,
      ⟨some 64, none, [.t 50, .t 63, .c (.pv (.bool false))], .v (.pick)⟩,
      ⟨some 4, none, [.t 64], .v (.mv)⟩] [4])
    .ret))⟩

/- typedholes/typedholesref7.declaration -/
def g121B0 : ACode :=
  (.seq
   (.seq
    (.reg [⟨some 13, none, [.t 0], .v (.mv)⟩,
      ⟨some 14, none, [.t 13, .c (.pv (.int .i64 1))], .callI 129 []⟩] [0, 2, 3, 14])
    (.cond (.t 14)
     .skip
     (.exit 0)))
   (.block 1
    (.reg [⟨some 15, none, [.t 3], .v (.faddr 2)⟩,
      ⟨some 16, none, [.t 15], .loadL 3 2 1 false⟩,
      ⟨some 17, none, [.t 0], .v (.mv)⟩,
      ⟨some 18, none, [.t 17, .c (.pv (.int .i64 1))], .callI 128 []⟩,
      ⟨some 19, none, [.t 18], .v (.bslice 1)⟩,
      ⟨some 20, none, [.t 16, .t 19], .append 1 16⟩,
      ⟨some 21, none, [.t 3], .v (.faddr 2)⟩,
      ⟨none, none, [.t 21, .t 20], .storeL 3 2 1⟩] [0, 2, 3])))
def g121L0 : ACode := .loop [0, 2, 3] g121B0
theorem g121L0_eq {AP : Nat → Option AFunc} {st : St} : cl AP g121L0 st = after (cl AP g121L0) (cl AP g121B0 (norm (restrict [0, 2, 3] st))) := cl_loop
def g121B2 : ACode :=
  (.seq
   (.seq
    (.reg [⟨some 34, none, [.t 0], .v (.mv)⟩,
      ⟨some 35, none, [.t 34], .callI 130 []⟩] [0, 2, 3, 4, 35])
    (.cond (.t 35)
     .skip
     (.exit 4)))
   (.block 5
    (.reg [⟨some 36, none, [.t 4], .v (.faddr 2)⟩,
      ⟨some 37, none, [.t 36], .loadL 4 2 1 false⟩,
      ⟨some 38, none, [.t 0], .v (.mv)⟩,
      ⟨some 39, none, [.t 38], .callI 131 []⟩,
      ⟨some 40, none, [.t 39], .v (.bslice 5)⟩,
      ⟨some 41, none, [.t 37, .t 40], .append 5 64⟩,
      ⟨some 42, none, [.t 4], .v (.faddr 2)⟩,
      ⟨none, none, [.t 42, .t 41], .storeL 4 2 1⟩] [0, 2, 3, 4])))
def g121L2 : ACode := .loop [0, 2, 3, 4] g121B2
theorem g121L2_eq {AP : Nat → Option AFunc} {st : St} : cl AP g121L2 st = after (cl AP g121L2) (cl AP g121B2 (norm (restrict [0, 2, 3, 4] st))) := cl_loop
def g121B1 : ACode :=
  (.seq
   (.seq
    (.reg [⟨some 24, none, [.t 0], .v (.mv)⟩,
      ⟨some 25, none, [.t 24], .v (.nilchk)⟩,
      ⟨some 26, none, [.t 25], .v (.faddr 2)⟩,
      ⟨some 27, none, [.t 26], .loadS 1 false⟩,
      ⟨some 28, none, [.t 27], .v (.un .not)⟩] [0, 2, 3, 28])
    (.cond (.t 28)
     .skip
     (.exit 2)))
   (.block 3
    (.seq
     (.reg [⟨some 29, none, [.t 0], .v (.mv)⟩,
       ⟨some 30, none, [.t 29], .callI 126 []⟩,
       ⟨some 31, none, [.t 0], .v (.mv)⟩,
       ⟨some 32, none, [.t 31, .c (.pv (.int .i64 2))], .callI 128 []⟩,
       ⟨some 33, none, [.t 30, .t 32], .v (.build [.int .i64 0, .str [], .lst []] [(0, 1), (1, 1)])⟩,
       ⟨some 4, none, [], .alloc 4 [.int .i64 0, .str [], .lst []]⟩,
       ⟨none, none, [.t 4, .t 33], .storeL 4 0 3⟩] [0, 2, 3, 4])
     (.seq
      (.block 4
       g121L2)
      (.seq
       (.reg [⟨some 43, none, [.t 3], .v (.faddr 3)⟩,
         ⟨some 44, none, [.t 43], .loadL 3 3 1 false⟩,
         ⟨some 45, none, [.t 4], .loadL 4 0 3 true⟩,
         ⟨some 46, none, [.t 45], .v (.bslice 3)⟩,
         ⟨some 47, none, [.t 44, .t 46], .append 3 48⟩,
         ⟨some 48, none, [.t 3], .v (.faddr 3)⟩,
         ⟨none, none, [.t 48, .t 47], .storeL 3 3 1⟩] [0, 2, 3])
       (.seq
        (.reg [⟨some 49, none, [.t 0], .v (.mv)⟩,
          ⟨some 50, none, [.t 49, .c (.pv (.str [124]))], .callI 132 []⟩,
          ⟨some 51, none, [.t 50], .v (.un .not)⟩] [0, 2, 3, 51])
        (.cond (.t 51)
         (.exit 2)
         .skip)))))))
def g121L1 : ACode := .loop [0, 2, 3] g121B1
theorem g121L1_eq {AP : Nat → Option AFunc} {st : St} : cl AP g121L1 st = after (cl AP g121L1) (cl AP g121B1 (norm (restrict [0, 2, 3] st))) := cl_loop
def g121 : AFunc := ⟨1, 55, [.c 2 4 true],
  (.seq
   (.reg [⟨some 2, none, [], .alloc 2 [.int .i64 0, .str [], .lst [], .lst []]⟩] [0, 2])
   (.seq
    (.reg [⟨some 5, none, [.t 0], .v (.mv)⟩,
      ⟨some 6, none, [.t 5], .callI 126 []⟩,
      ⟨some 7, none, [.t 6], .v (.build [.int .i64 0, .str [], .lst [], .lst []] [(0, 1)])⟩,
      ⟨some 3, none, [], .alloc 3 [.int .i64 0, .str [], .lst [], .lst []]⟩,
      ⟨none, none, [.t 3, .t 7], .storeL 3 0 4⟩] [0, 2, 3])
    (.seq
     (.reg [⟨some 8, none, [.t 0], .v (.mv)⟩,
       ⟨some 9, none, [.t 8, .c (.pv (.str [100, 97, 116, 97]))], .callI 127 []⟩] [0, 2, 3])
     (.seq
      (.reg [⟨some 10, none, [.t 0], .v (.mv)⟩,
        ⟨some 11, none, [.t 10, .c (.pv (.int .i64 2))], .callI 128 []⟩,
        ⟨some 12, none, [.t 3], .v (.faddr 1)⟩,
        ⟨none, none, [.t 12, .t 11], .storeL 3 1 1⟩] [0, 2, 3])
      (.seq
       (.block 0
        g121L0)
       (.seq
        (.reg [⟨some 22, none, [.t 0], .v (.mv)⟩,
          ⟨some 23, none, [.t 22, .c (.pv (.str [61]))], .callI 127 []⟩] [0, 2, 3])
        (.seq
         (.block 2
          g121L1)
         (.seq
          (.reg [⟨some 52, none, [.t 0], .v (.mv)⟩,
            ⟨some 53, none, [.t 52, .c (.pv (.str [59]))], .callI 127 []⟩] [2, 3])
          (.seq
           (.reg [⟨some 54, none, [.t 3], .loadL 3 0 4 true⟩,
             ⟨none, none, [.t 2, .t 54], .storeL 2 0 4⟩] [2])
           .ret)))))))))⟩

/- typedholes/typedholesref7.binding -/
def g122 : AFunc := ⟨1, 34, [.c 2 20 true],
  (.seq
   (.reg [⟨some 2, none, [], .alloc 2 [.int .i64 0, .bool false, .str [], .bool false, .int .i64 0, .str [], .int .i64 0, .int .i64 0, .lst [], .int .i64 0, .int .i64 0, .str [], .int .i64 0, .lst [], .lst [], .int .i64 0, .str [], .int .i64 0, .int .i64 0, .lst []]⟩] [0, 2])
   (.seq
    (.reg [⟨some 4, none, [.t 0], .v (.mv)⟩,
      ⟨some 5, none, [.t 4], .callI 126 []⟩,
      ⟨some 6, none, [.t 5], .v (.build [.int .i64 0, .bool false, .str [], .bool false, .int .i64 0, .str [], .int .i64 0, .int .i64 0, .lst [], .int .i64 0, .int .i64 0, .str [], .int .i64 0, .lst [], .lst [], .int .i64 0, .str [], .int .i64 0, .int .i64 0, .lst []] [(0, 1)])⟩,
      ⟨some 3, none, [], .alloc 3 [.int .i64 0, .bool false, .str [], .bool false, .int .i64 0, .str [], .int .i64 0, .int .i64 0, .lst [], .int .i64 0, .int .i64 0, .str [], .int .i64 0, .lst [], .lst [], .int .i64 0, .str [], .int .i64 0, .int .i64 0, .lst []]⟩,
      ⟨none, none, [.t 3, .t 6], .storeL 3 0 20⟩] [0, 2, 3])
    (.seq
     (.reg [⟨some 7, none, [.t 0], .v (.mv)⟩,
       ⟨some 8, none, [.t 7, .c (.pv (.str [108, 101, 116]))], .callI 127 []⟩] [0, 2, 3])
     (.seq
      (.reg [⟨some 9, none, [.t 0], .v (.mv)⟩,
        ⟨some 10, none, [.t 9, .c (.pv (.str [114, 101, 99]))], .callI 132 []⟩,
        ⟨some 11, none, [.t 3], .v (.faddr 1)⟩,
        ⟨none, none, [.t 11, .t 10], .storeL 3 1 1⟩] [0, 2, 3])
      (.seq
       (.reg [⟨some 12, none, [.t 0], .v (.mv)⟩,
         ⟨some 13, none, [.t 12, .c (.pv (.int .i64 1))], .callI 128 []⟩,
         ⟨some 14, none, [.t 3], .v (.faddr 2)⟩,
         ⟨none, none, [.t 14, .t 13], .storeL 3 2 1⟩] [0, 2, 3])
       (.seq
        (.seq
         (.reg [⟨some 15, none, [.t 0], .v (.mv)⟩,
           ⟨some 16, none, [.t 15, .c (.pv (.str [58]))], .callI 132 []⟩] [0, 2, 3, 16])
         (.cond (.t 16)
          (.seq
           (.reg [⟨some 17, none, [.t 3], .v (.faddr 3)⟩,
             ⟨none, none, [.t 17, .c (.pv (.bool true))], .storeL 3 3 1⟩] [0, 2, 3])
           (.reg [⟨some 18, none, [.t 0], .v (.mv)⟩,
             ⟨some 19, none, [.t 18], .callI 133 []⟩,
             ⟨some 20, none, [.t 3], .v (.faddr 4)⟩,
             ⟨none, none, [.t 20, .t 19], .storeL 3 4 5⟩] [0, 2, 3]))
          .skip))
        (.seq
         (.reg [⟨some 21, none, [.t 0], .v (.mv)⟩,
           ⟨some 22, none, [.t 21, .c (.pv (.str [61]))], .callI 127 []⟩] [0, 2, 3])
         (.seq
          (.seq
           (.reg [⟨some 23, none, [.t 0], .v (.mv)⟩,
             ⟨some 24, none, [.t 23], .v (.nilchk)⟩,
             ⟨some 25, none, [.t 24], .v (.faddr 2)⟩,
             ⟨some 26, none, [.t 25], .loadS 1 false⟩,
             ⟨some 27, none, [.t 26], .v (.un .not)⟩] [0, 2, 3, 27])
           (.cond (.t 27)
            (.reg [⟨some 28, none, [.t 0], .v (.mv)⟩,
              ⟨some 29, none, [.t 28], .callI 134 []⟩,
              ⟨some 30, none, [.t 3], .v (.faddr 9)⟩,
              ⟨none, none, [.t 30, .t 29], .storeL 3 9 11⟩] [0, 2, 3])
            .skip))
          (.seq
           (.reg [⟨some 31, none, [.t 0], .v (.mv)⟩,
             ⟨some 32, none, [.t 31, .c (.pv (.str [59]))], .callI 127 []⟩] [2, 3])
           (.seq
            (.reg [⟨some 33, none, [.t 3], .loadL 3 0 20 true⟩,
              ⟨none, none, [.t 2, .t 33], .storeL 2 0 20⟩] [2])
            .ret))))))))))⟩

/- typedholes/typedholesref7.Deep -/
def g123B1 : ACode :=
  (.seq
   (.seq
    (.reg [⟨some 43, none, [.t 5], .v (.mv)⟩,
      ⟨some 44, none, [.t 4], .v (.faddr 3)⟩,
      ⟨some 45, none, [.t 44], .loadL 4 3 1 false⟩,
      ⟨some 46, none, [.t 45], .v (.len)⟩,
      ⟨some 47, none, [.t 43, .t 46], .v (.bin .lss)⟩] [1, 2, 3, 4, 5, 47])
    (.cond (.t 47)
     .skip
     (.exit 2)))
   (.seq
    (.block 3
     (.seq
      (.reg [⟨some 50, none, [.t 4], .v (.faddr 3)⟩,
        ⟨some 51, none, [.t 50], .loadL 4 3 1 false⟩,
        ⟨some 52, none, [.t 5], .v (.mv)⟩,
        ⟨some 53, none, [.t 51, .t 52], .v (.iaddr 3)⟩,
        ⟨some 54, none, [.t 53], .v (.faddr 2)⟩,
        ⟨some 55, none, [.t 54], .v (.loadE 1 false)⟩,
        ⟨some 56, none, [.t 55], .v (.len)⟩,
        ⟨some 57, none, [.t 56, .c (.pv (.int .i64 4))], .v (.bin .gtr)⟩] [1, 2, 3, 4, 5, 57])
      (.cond (.t 57)
       (.seq
        (.reg [⟨some 58, none, [.t 4], .v (.faddr 3)⟩,
          ⟨some 59, none, [.t 58], .loadL 4 3 1 false⟩,
          ⟨some 60, none, [.t 5], .v (.mv)⟩,
          ⟨some 61, none, [.t 59, .t 60], .v (.iaddr 3)⟩,
          ⟨some 62, none, [.t 61], .v (.faddr 0)⟩,
          ⟨some 63, none, [.t 62], .v (.loadE 1 false)⟩,
          ⟨some 64, none, [.c (.pv (.int .i64 5)), .t 63], .v (.build [.int .i64 0, .int .i64 0] [(0, 1), (1, 1)])⟩,
          ⟨none, none, [.t 2, .t 64], .storeL 2 0 2⟩] [2])
        .ret)
       .skip)))
    (.reg [⟨some 48, none, [.t 5], .v (.mv)⟩,
      ⟨some 49, none, [.t 48, .c (.pv (.int .i64 1))], .v (.bin .add)⟩,
      ⟨some 5, none, [.t 49], .v (.mv)⟩] [1, 2, 3, 4, 5])))
def g123L1 : ACode := .loop [1, 2, 3, 4, 5] g123B1
theorem g123L1_eq {AP : Nat → Option AFunc} {st : St} : cl AP g123L1 st = after (cl AP g123L1) (cl AP g123B1 (norm (restrict [1, 2, 3, 4, 5] st))) := cl_loop
def g123B0 : ACode :=
  (.seq
   (.seq
    (.reg [⟨some 14, none, [.t 3], .v (.mv)⟩,
      ⟨some 15, none, [.t 1], .v (.faddr 0)⟩,
      ⟨some 16, none, [.t 15], .loadL 1 0 1 false⟩,
      ⟨some 17, none, [.t 16], .v (.len)⟩,
      ⟨some 18, none, [.t 14, .t 17], .v (.bin .lss)⟩] [1, 2, 3, 18])
    (.cond (.t 18)
     .skip
     (.exit 0)))
   (.seq
    (.block 1
     (.seq
      (.reg [⟨some 21, none, [.t 1], .v (.faddr 0)⟩,
        ⟨some 22, none, [.t 21], .loadL 1 0 1 false⟩,
        ⟨some 23, none, [.t 3], .v (.mv)⟩,
        ⟨some 24, none, [.t 22, .t 23], .v (.iaddr 4)⟩,
        ⟨some 25, none, [.t 24], .v (.loadE 4 true)⟩,
        ⟨some 4, none, [], .alloc 4 [.int .i64 0, .str [], .lst [], .lst []]⟩,
        ⟨none, none, [.t 4, .t 25], .storeL 4 0 4⟩] [1, 2, 3, 4])
      (.seq
       (.seq
        (.reg [⟨some 26, none, [.t 3], .v (.mv)⟩,
          ⟨some 27, none, [.t 26, .c (.pv (.int .i64 8))], .v (.bin .geq)⟩,
          ⟨some 28, none, [.t 27], .v (.mv)⟩,
          ⟨some 29, some (28, false), [.t 4], .v (.faddr 2)⟩,
          ⟨some 30, some (28, false), [.t 29], .loadL 4 2 1 false⟩,
          ⟨some 31, some (28, false), [.t 30], .v (.len)⟩,
          ⟨some 32, some (28, false), [.t 31, .c (.pv (.int .i64 4))], .v (.bin .gtr)⟩,
          ⟨some 33, none, [.t 28, .c (.pv (.bool true)), .t 32], .v (.pick)⟩,
          ⟨some 34, none, [.t 33], .v (.mv)⟩,
          ⟨some 35, some (34, false), [.t 4], .v (.faddr 3)⟩,
          ⟨some 36, some (34, false), [.t 35], .loadL 4 3 1 false⟩,
          ⟨some 37, some (34, false), [.t 36], .v (.len)⟩,
          ⟨some 38, some (34, false), [.t 37, .c (.pv (.int .i64 6))], .v (.bin .gtr)⟩,
          ⟨some 39, none, [.t 34, .c (.pv (.bool true)), .t 38], .v (.pick)⟩] [1, 2, 3, 4, 39])
        (.cond (.t 39)
         (.seq
          (.reg [⟨some 40, none, [.t 4], .v (.faddr 0)⟩,
            ⟨some 41, none, [.t 40], .loadL 4 0 1 false⟩,
            ⟨some 42, none, [.c (.pv (.int .i64 5)), .t 41], .v (.build [.int .i64 0, .int .i64 0] [(0, 1), (1, 1)])⟩,
            ⟨none, none, [.t 2, .t 42], .storeL 2 0 2⟩] [2])
          .ret)
         .skip))
       (.seq
        (.reg [⟨some 5, none, [.c (.pv (.int .i64 0))], .v (.mv)⟩] [1, 2, 3, 4, 5])
        (.block 2
         g123L1)))))
    (.reg [⟨some 19, none, [.t 3], .v (.mv)⟩,
      ⟨some 20, none, [.t 19, .c (.pv (.int .i64 1))], .v (.bin .add)⟩,
      ⟨some 3, none, [.t 20], .v (.mv)⟩] [1, 2, 3])))
def g123L0 : ACode := .loop [1, 2, 3] g123B0
theorem g123L0_eq {AP : Nat → Option AFunc} {st : St} : cl AP g123L0 st = after (cl AP g123L0) (cl AP g123B0 (norm (restrict [1, 2, 3] st))) := cl_loop
def g123B4 : ACode :=
  (.seq
   (.seq
    (.reg [⟨some 94, none, [.t 9], .v (.mv)⟩,
      ⟨some 95, none, [.t 7], .v (.faddr 3)⟩,
      ⟨some 96, none, [.t 95], .loadL 7 3 1 false⟩,
      ⟨some 97, none, [.t 8], .v (.mv)⟩,
      ⟨some 98, none, [.t 96, .t 97], .v (.iaddr 3)⟩,
      ⟨some 99, none, [.t 98], .v (.faddr 2)⟩,
      ⟨some 100, none, [.t 99], .v (.loadE 1 false)⟩,
      ⟨some 101, none, [.t 100], .v (.len)⟩,
      ⟨some 102, none, [.t 94, .t 101], .v (.bin .lss)⟩] [1, 2, 6, 7, 8, 9, 102])
    (.cond (.t 102)
     .skip
     (.exit 8)))
   (.seq
    (.block 9
     (.seq
      (.reg [⟨some 105, none, [.t 7], .v (.faddr 3)⟩,
        ⟨some 106, none, [.t 105], .loadL 7 3 1 false⟩,
        ⟨some 107, none, [.t 8], .v (.mv)⟩,
        ⟨some 108, none, [.t 106, .t 107], .v (.iaddr 3)⟩,
        ⟨some 109, none, [.t 108], .v (.faddr 2)⟩,
        ⟨some 110, none, [.t 109], .v (.loadE 1 false)⟩,
        ⟨some 111, none, [.t 9], .v (.mv)⟩,
        ⟨some 112, none, [.t 110, .t 111], .v (.iaddr 5)⟩,
        ⟨some 113, none, [.t 112], .v (.loadE 5 true)⟩,
        ⟨some 114, none, [.t 113], .callP 52⟩,
        ⟨some 115, none, [.t 114, .c (.pv (.int .i64 40))], .v (.bin .gtr)⟩] [1, 2, 6, 7, 8, 9, 115])
      (.cond (.t 115)
       (.seq
        (.reg [⟨some 116, none, [.t 7], .v (.faddr 0)⟩,
          ⟨some 117, none, [.t 116], .loadL 7 0 1 false⟩,
          ⟨some 118, none, [.c (.pv (.int .i64 4)), .t 117], .v (.build [.int .i64 0, .int .i64 0] [(0, 1), (1, 1)])⟩,
          ⟨none, none, [.t 2, .t 118], .storeL 2 0 2⟩] [2])
        .ret)
       .skip)))
    (.reg [⟨some 103, none, [.t 9], .v (.mv)⟩,
      ⟨some 104, none, [.t 103, .c (.pv (.int .i64 1))], .v (.bin .add)⟩,
      ⟨some 9, none, [.t 104], .v (.mv)⟩] [1, 2, 6, 7, 8, 9])))
def g123L4 : ACode := .loop [1, 2, 6, 7, 8, 9] g123B4
theorem g123L4_eq {AP : Nat → Option AFunc} {st : St} : cl AP g123L4 st = after (cl AP g123L4) (cl AP g123B4 (norm (restrict [1, 2, 6, 7, 8, 9] st))) := cl_loop
def g123B3 : ACode :=
  (.seq
   (.seq
    (.reg [⟨some 87, none, [.t 8], .v (.mv)⟩,
      ⟨some 88, none, [.t 7], .v (.faddr 3)⟩,
      ⟨some 89, none, [.t 88], .loadL 7 3 1 false⟩,
      ⟨some 90, none, [.t 89], .v (.len)⟩,
      ⟨some 91, none, [.t 87, .t 90], .v (.bin .lss)⟩] [1, 2, 6, 7, 8, 91])
    (.cond (.t 91)
     .skip
     (.exit 6)))
   (.seq
    (.block 7
     (.seq
      (.reg [⟨some 9, none, [.c (.pv (.int .i64 0))], .v (.mv)⟩] [1, 2, 6, 7, 8, 9])
      (.block 8
       g123L4)))
    (.reg [⟨some 92, none, [.t 8], .v (.mv)⟩,
      ⟨some 93, none, [.t 92, .c (.pv (.int .i64 1))], .v (.bin .add)⟩,
      ⟨some 8, none, [.t 93], .v (.mv)⟩] [1, 2, 6, 7, 8])))
def g123L3 : ACode := .loop [1, 2, 6, 7, 8] g123B3
theorem g123L3_eq {AP : Nat → Option AFunc} {st : St} : cl AP g123L3 st = after (cl AP g123L3) (cl AP g123B3 (norm (restrict [1, 2, 6, 7, 8] st))) := cl_loop
def g123B2 : ACode :=
  (.seq
   (.seq
    (.reg [⟨some 75, none, [.t 6], .v (.mv)⟩,
      ⟨some 76, none, [.t 1], .v (.faddr 0)⟩,
      ⟨some 77, none, [.t 76], .loadL 1 0 1 false⟩,
      ⟨some 78, none, [.t 77], .v (.len)⟩,
      ⟨some 79, none, [.t 75, .t 78], .v (.bin .lss)⟩] [1, 2, 6, 79])
    (.cond (.t 79)
     .skip
     (.exit 4)))
   (.seq
    (.block 5
     (.seq
      (.reg [⟨some 82, none, [.t 1], .v (.faddr 0)⟩,
        ⟨some 83, none, [.t 82], .loadL 1 0 1 false⟩,
        ⟨some 84, none, [.t 6], .v (.mv)⟩,
        ⟨some 85, none, [.t 83, .t 84], .v (.iaddr 4)⟩,
        ⟨some 86, none, [.t 85], .v (.loadE 4 true)⟩,
        ⟨some 7, none, [], .alloc 7 [.int .i64 0, .str [], .lst [], .lst []]⟩,
        ⟨none, none, [.t 7, .t 86], .storeL 7 0 4⟩] [1, 2, 6, 7])
      (.seq
       (.reg [⟨some 8, none, [.c (.pv (.int .i64 0))], .v (.mv)⟩] [1, 2, 6, 7, 8])
       (.block 6
        g123L3))))
    (.reg [⟨some 80, none, [.t 6], .v (.mv)⟩,
      ⟨some 81, none, [.t 80, .c (.pv (.int .i64 1))], .v (.bin .add)⟩,
      ⟨some 6, none, [.t 81], .v (.mv)⟩] [1, 2, 6])))
def g123L2 : ACode := .loop [1, 2, 6] g123B2
theorem g123L2_eq {AP : Nat → Option AFunc} {st : St} : cl AP g123L2 st = after (cl AP g123L2) (cl AP g123B2 (norm (restrict [1, 2, 6] st))) := cl_loop
def g123B5 : ACode :=
  (.seq
   (.seq
    (.reg [⟨some 119, none, [.t 10], .v (.mv)⟩,
      ⟨some 120, none, [.t 1], .v (.faddr 1)⟩,
      ⟨some 121, none, [.t 120], .loadL 1 1 1 false⟩,
      ⟨some 122, none, [.t 121], .v (.len)⟩,
      ⟨some 123, none, [.t 119, .t 122], .v (.bin .lss)⟩] [1, 2, 10, 123])
    (.cond (.t 123)
     .skip
     (.exit 10)))
   (.seq
    (.block 11
     (.seq
      (.reg [⟨some 126, none, [.t 1], .v (.faddr 1)⟩,
        ⟨some 127, none, [.t 126], .loadL 1 1 1 false⟩,
        ⟨some 128, none, [.t 10], .v (.mv)⟩,
        ⟨some 129, none, [.t 127, .t 128], .v (.iaddr 20)⟩,
        ⟨some 130, none, [.t 129], .v (.loadE 20 true)⟩,
        ⟨some 11, none, [], .alloc 11 [.int .i64 0, .bool false, .str [], .bool false, .int .i64 0, .str [], .int .i64 0, .int .i64 0, .lst [], .int .i64 0, .int .i64 0, .str [], .int .i64 0, .lst [], .lst [], .int .i64 0, .str [], .int .i64 0, .int .i64 0, .lst []]⟩,
        ⟨none, none, [.t 11, .t 130], .storeL 11 0 20⟩] [1, 2, 10, 11])
      (.seq
       (.seq
        (.reg [⟨some 131, none, [.t 11], .v (.faddr 3)⟩,
          ⟨some 132, none, [.t 131], .loadL 11 3 1 false⟩,
          ⟨some 133, none, [.t 132], .v (.mv)⟩,
          ⟨some 134, some (133, true), [.t 11], .v (.faddr 4)⟩,
          ⟨some 135, some (133, true), [.t 134], .loadL 11 4 5 true⟩,
          ⟨some 136, some (133, true), [.t 135], .callP 52⟩,
          ⟨some 137, some (133, true), [.t 136, .c (.pv (.int .i64 40))], .v (.bin .gtr)⟩,
          ⟨some 138, none, [.t 133, .t 137, .c (.pv (.bool false))], .v (.pick)⟩,
          ⟨some 139, none, [.t 138], .v (.mv)⟩,
          ⟨some 140, some (139, false), [.t 11], .v (.faddr 9)⟩,
          ⟨some 141, some (139, false), [.t 140], .loadL 11 9 11 true⟩,
          ⟨some 142, some (139, false), [.t 141], .callP 135⟩,
          ⟨some 143, none, [.t 139, .c (.pv (.bool true)), .t 142], .v (.pick)⟩] [1, 2, 10, 11, 143])
        (.cond (.t 143)
         (.seq
          (.reg [⟨some 144, none, [.t 11], .v (.faddr 0)⟩,
            ⟨some 145, none, [.t 144], .loadL 11 0 1 false⟩,
            ⟨some 146, none, [.c (.pv (.int .i64 4)), .t 145], .v (.build [.int .i64 0, .int .i64 0] [(0, 1), (1, 1)])⟩,
            ⟨none, none, [.t 2, .t 146], .storeL 2 0 2⟩] [2])
          .ret)
         .skip))
       (.seq
        (.reg [⟨some 148, none, [.t 11], .v (.faddr 9)⟩,
          ⟨some 149, none, [.t 148], .loadL 11 9 11 true⟩,
          ⟨some 150, none, [.t 149], .callP 136⟩,
          ⟨some 147, none, [.t 150], .v (.mv)⟩,
          ⟨some 151, none, [.t 147], .v (.ext 0)⟩,
          ⟨some 152, none, [.t 147], .v (.ext 1)⟩,
          ⟨some 12, none, [.t 151], .v (.mv)⟩,
          ⟨some 13, none, [.t 152], .v (.mv)⟩] [1, 2, 10, 12, 13])
        (.seq
         (.reg [⟨some 153, none, [.t 13], .v (.mv)⟩] [1, 2, 10, 12, 153])
         (.cond (.t 153)
          (.seq
           (.reg [⟨some 154, none, [.t 12], .v (.mv)⟩,
             ⟨some 155, none, [.c (.pv (.int .i64 5)), .t 154], .v (.build [.int .i64 0, .int .i64 0] [(0, 1), (1, 1)])⟩,
             ⟨none, none, [.t 2, .t 155], .storeL 2 0 2⟩] [2])
           .ret)
          .skip))))))
    (.reg [⟨some 124, none, [.t 10], .v (.mv)⟩,
      ⟨some 125, none, [.t 124, .c (.pv (.int .i64 1))], .v (.bin .add)⟩,
      ⟨some 10, none, [.t 125], .v (.mv)⟩] [1, 2, 10])))
def g123L5 : ACode := .loop [1, 2, 10] g123B5
theorem g123L5_eq {AP : Nat → Option AFunc} {st : St} : cl AP g123L5 st = after (cl AP g123L5) (cl AP g123B5 (norm (restrict [1, 2, 10] st))) := cl_loop
def g123 : AFunc := ⟨1, 157, [.c 2 2 true],
  (.seq
   (.reg [⟨some 1, none, [.t 0], .box 1 2⟩,
     ⟨some 2, none, [], .alloc 2 [.int .i64 0, .int .i64 0]⟩] [1, 2])
   (.seq
    (.seq
     (.reg [⟨some 3, none, [.c (.pv (.int .i64 0))], .v (.mv)⟩] [1, 2, 3])
     (.block 0
      g123L0))
    (.seq
     (.seq
      (.reg [⟨some 65, none, [.t 1], .v (.faddr 1)⟩,
        ⟨some 66, none, [.t 65], .loadL 1 1 1 false⟩,
        ⟨some 67, none, [.t 66], .v (.len)⟩,
        ⟨some 68, none, [.t 67, .c (.pv (.int .i64 16))], .v (.bin .gtr)⟩] [1, 2, 68])
      (.cond (.t 68)
       (.seq
        (.reg [⟨some 69, none, [.t 1], .v (.faddr 1)⟩,
          ⟨some 70, none, [.t 69], .loadL 1 1 1 false⟩,
          ⟨some 71, none, [.t 70, .c (.pv (.int .i64 16))], .v (.iaddr 20)⟩,
          ⟨some 72, none, [.t 71], .v (.faddr 0)⟩,
          ⟨some 73, none, [.t 72], .v (.loadE 1 false)⟩,
          ⟨some 74, none, [.c (.pv (.int .i64 5)), .t 73], .v (.build [.int .i64 0, .int .i64 0] [(0, 1), (1, 1)])⟩,
          ⟨none, none, [.t 2, .t 74], .storeL 2 0 2⟩] [2])
        .ret)
       .skip))
     (.seq
      (.seq
       (.reg [⟨some 6, none, [.c (.pv (.int .i64 0))], .v (.mv)⟩] [1, 2, 6])
       (.block 4
        g123L2))
      (.seq
       (.seq
        (.reg [⟨some 10, none, [.c (.pv (.int .i64 0))], .v (.mv)⟩] [1, 2, 10])
        (.block 10
         g123L5))
       (.seq
        (.reg [⟨some 156, none, [], .v (.build [.int .i64 0, .int .i64 0] [])⟩,
          ⟨none, none, [.t 2, .t 156], .storeL 2 0 2⟩] [2])
        .ret))))))⟩

/- typedholes/typedholesref2.digit -/
def g124 : AFunc := ⟨1, 9, [.t 2],
  (.seq
   (.reg [⟨some 2, none, [.c (.pv (.bool false))], .v (.mv)⟩] [0])
   (.seq
    (.reg [⟨some 3, none, [.t 0], .v (.mv)⟩,
      ⟨some 4, none, [.t 3, .c (.pv (.int .u8 48))], .v (.bin .geq)⟩,
      ⟨some 5, none, [.t 4], .v (.mv)⟩,
      ⟨some 6, some (5, true), [.t 0], .v (.mv)⟩,
      ⟨some 7, some (5, true), [.t 6, .c (.pv (.int .u8 57))], .v (.bin .leq)⟩,
      ⟨some 8, none, [.t 5, .t 7, .c (.pv (.bool false))], .v (.pick)⟩,
      ⟨some 2, none, [.t 8], .v (.mv)⟩] [2])
    .ret))⟩

/- typedholes/typedholesref2.Kind -/
def g125 : AFunc := ⟨1, 18, [.t 2],
  (.seq
   (.reg [⟨some 2, none, [.c (.pv (.int .i64 0))], .v (.mv)⟩] [0])
   (.seq
    (.block 0
     (.seq
      (.reg [⟨some 4, none, [.t 0], .v (.mv)⟩,
        ⟨some 5, none, [.t 4], .callP 110⟩,
        ⟨some 3, none, [.t 5], .v (.mv)⟩] [0, 3])
      (.cond (.t 3)
       (.seq
        (.reg [⟨some 2, none, [.c (.pv (.int .i64 4))], .v (.mv)⟩] [2])
        .ret)
       (.seq
        (.reg [⟨some 7, none, [.t 0], .v (.mv)⟩,
          ⟨some 8, none, [.t 7], .callP 77⟩,
          ⟨some 6, none, [.t 8], .v (.mv)⟩] [0, 6])
        (.cond (.t 6)
         (.seq
          (.reg [⟨some 2, none, [.c (.pv (.int .i64 1))], .v (.mv)⟩] [2])
          .ret)
         (.seq
          (.reg [⟨some 10, none, [.t 0], .v (.mv)⟩,
            ⟨some 11, none, [.t 10], .callP 78⟩,
            ⟨some 9, none, [.t 11], .v (.mv)⟩] [0, 9])
          (.cond (.t 9)
           (.seq
            (.reg [⟨some 2, none, [.c (.pv (.int .i64 2))], .v (.mv)⟩] [2])
            .ret)
           (.seq
            (.reg [⟨some 13, none, [.t 0], .v (.mv)⟩,
              ⟨some 14, none, [.t 13], .callP 137⟩,
              ⟨some 12, none, [.t 14], .v (.mv)⟩] [0, 12])
            (.cond (.t 12)
             (.seq
              (.reg [⟨some 2, none, [.c (.pv (.int .i64 3))], .v (.mv)⟩] [2])
              .ret)
             (.seq
              (.reg [⟨some 16, none, [.t 0], .v (.mv)⟩,
                ⟨some 17, none, [.t 16], .callP 138⟩,
                ⟨some 15, none, [.t 17], .v (.mv)⟩] [15])
              (.cond (.t 15)
               (.seq
                (.reg [⟨some 2, none, [.c (.pv (.int .i64 5))], .v (.mv)⟩] [2])
                .ret)
               .skip)))))))))))
    (.seq
     (.reg [⟨some 2, none, [.c (.pv (.int .i64 0))], .v (.mv)⟩] [2])
     .ret)))⟩

/- (*typedholes/typedholesref5.Reader).Pos -/
def g126 : AFunc := ⟨1, 24, [.t 2],
  (.seq
   (.reg [⟨some 2, none, [.c (.pv (.int .i64 0))], .v (.mv)⟩] [0])
   (.seq
    (.seq
     (.reg [⟨some 3, none, [.t 0], .v (.mv)⟩,
       ⟨some 4, none, [.t 3], .v (.nilchk)⟩,
       ⟨some 5, none, [.t 4], .v (.faddr 1)⟩,
       ⟨some 6, none, [.t 5], .loadS 1 false⟩,
       ⟨some 7, none, [.t 0], .v (.mv)⟩,
       ⟨some 8, none, [.t 7], .v (.nilchk)⟩,
       ⟨some 9, none, [.t 8], .v (.faddr 0)⟩,
       ⟨some 10, none, [.t 9], .loadS 1 false⟩,
       ⟨some 11, none, [.t 10], .v (.len)⟩,
       ⟨some 12, none, [.t 6, .t 11], .v (.bin .lss)⟩] [0, 12])
     (.cond (.t 12)
      (.seq
       (.reg [⟨some 13, none, [.t 0], .v (.mv)⟩,
         ⟨some 14, none, [.t 13], .v (.nilchk)⟩,
         ⟨some 15, none, [.t 14], .v (.faddr 0)⟩,
         ⟨some 16, none, [.t 15], .loadS 1 false⟩,
         ⟨some 17, none, [.t 0], .v (.mv)⟩,
         ⟨some 18, none, [.t 17], .v (.nilchk)⟩,
         ⟨some 19, none, [.t 18], .v (.faddr 1)⟩,
         ⟨some 20, none, [.t 19], .loadS 1 false⟩,
         ⟨some 21, none, [.t 16, .t 20], .v (.iaddr 3)⟩,
         ⟨some 22, none, [.t 21], .v (.faddr 2)⟩,
         ⟨some 23, none, [.t 22], .v (.loadE 1 false)⟩,
         ⟨some 2, none, [.t 23], .v (.mv)⟩] [2])
       .ret)
      .skip))
    (.seq
     (.reg [⟨some 2, none, [.c (.pv (.int .i64 0))], .v (.mv)⟩] [2])
     .ret)))⟩

/- (*typedholes/typedholesref5.Reader).Need -/
def g127 : AFunc := ⟨2, 10, [],
  (.seq
   (.reg [⟨some 4, none, [.t 0], .v (.mv)⟩,
     ⟨some 5, none, [.t 1], .v (.mv)⟩,
     ⟨some 6, none, [.t 4, .t 5], .callI 132 []⟩,
     ⟨some 7, none, [.t 6], .v (.un .not)⟩] [0, 7])
   (.cond (.t 7)
    (.reg [⟨some 8, none, [.t 0], .v (.mv)⟩,
      ⟨some 9, none, [.t 8], .callI 139 []⟩] [])
    .skip))⟩

/- (*typedholes/typedholesref5.Reader).Word -/
def g128 : AFunc := ⟨2, 30, [.t 4],
  (.seq
   (.reg [⟨some 4, none, [.c (.pv (.str []))], .v (.mv)⟩] [0, 1])
   (.seq
    (.seq
     (.reg [⟨some 5, none, [.t 0], .v (.mv)⟩,
       ⟨some 6, none, [.t 1], .v (.mv)⟩,
       ⟨some 7, none, [.t 5, .t 6], .callI 129 []⟩,
       ⟨some 8, none, [.t 7], .v (.un .not)⟩] [0, 8])
     (.cond (.t 8)
      (.seq
       (.reg [⟨some 9, none, [.t 0], .v (.mv)⟩,
         ⟨some 10, none, [.t 9], .callI 139 []⟩] [])
       (.seq
        (.reg [⟨some 4, none, [.c (.pv (.str []))], .v (.mv)⟩] [4])
        .ret))
      .skip))
    (.seq
     (.reg [⟨some 11, none, [.t 0], .v (.mv)⟩,
       ⟨some 12, none, [.t 11], .v (.nilchk)⟩,
       ⟨some 13, none, [.t 12], .v (.faddr 1)⟩,
       ⟨some 14, none, [.t 13], .loadS 1 false⟩,
       ⟨some 15, none, [.t 14, .c (.pv (.int .i64 1))], .v (.bin .add)⟩,
       ⟨some 16, none, [.t 11], .v (.nilchk)⟩,
       ⟨some 17, none, [.t 16], .v (.faddr 1)⟩,
       ⟨none, none, [.t 17, .t 15], .storeS 1⟩] [0])
     (.seq
      (.reg [⟨some 18, none, [.t 0], .v (.mv)⟩,
        ⟨some 19, none, [.t 18], .v (.nilchk)⟩,
        ⟨some 20, none, [.t 19], .v (.faddr 0)⟩,
        ⟨some 21, none, [.t 20], .loadS 1 false⟩,
        ⟨some 22, none, [.t 0], .v (.mv)⟩,
        ⟨some 23, none, [.t 22], .v (.nilchk)⟩,
        ⟨some 24, none, [.t 23], .v (.faddr 1)⟩,
        ⟨some 25, none, [.t 24], .loadS 1 false⟩,
        ⟨some 26, none, [.t 25, .c (.pv (.int .i64 1))], .v (.bin .sub)⟩,
        ⟨some 27, none, [.t 21, .t 26], .v (.iaddr 3)⟩,
        ⟨some 28, none, [.t 27], .v (.faddr 1)⟩,
        ⟨some 29, none, [.t 28], .v (.loadE 1 false)⟩,
        ⟨some 4, none, [.t 29], .v (.mv)⟩] [4])
      .ret))))⟩

/- (*typedholes/typedholesref5.Reader).Kind -/
def g129 : AFunc := ⟨2, 37, [.t 4],
  (.seq
   (.reg [⟨some 4, none, [.c (.pv (.bool false))], .v (.mv)⟩] [0, 1])
   (.seq
    (.reg [⟨some 5, none, [.t 0], .v (.mv)⟩,
      ⟨some 6, none, [.t 5], .v (.nilchk)⟩,
      ⟨some 7, none, [.t 6], .v (.faddr 2)⟩,
      ⟨some 8, none, [.t 7], .loadS 1 false⟩,
      ⟨some 9, none, [.t 8], .v (.un .not)⟩,
      ⟨some 10, none, [.t 9], .v (.mv)⟩,
      ⟨some 11, some (10, true), [.t 0], .v (.mv)⟩,
      ⟨some 12, some (10, true), [.t 11], .v (.nilchk)⟩,
      ⟨some 13, some (10, true), [.t 12], .v (.faddr 1)⟩,
      ⟨some 14, some (10, true), [.t 13], .loadS 1 false⟩,
      ⟨some 15, some (10, true), [.t 0], .v (.mv)⟩,
      ⟨some 16, some (10, true), [.t 15], .v (.nilchk)⟩,
      ⟨some 17, some (10, true), [.t 16], .v (.faddr 0)⟩,
      ⟨some 18, some (10, true), [.t 17], .loadS 1 false⟩,
      ⟨some 19, some (10, true), [.t 18], .v (.len)⟩,
      ⟨some 20, some (10, true), [.t 14, .t 19], .v (.bin .lss)⟩,
      ⟨some 21, none, [.t 10, .t 20, .c (.pv (.bool false))], .v (.pick)⟩,
      ⟨some 22, none, [.t 21], .v (.mv)⟩,
      ⟨some 23, some (22, true), [.t 0], .v (.mv)⟩,
      ⟨some 24, some (22, true), [.t 23], .v (.nilchk)⟩,
      ⟨some 25, some (22, true), [.t 24], .v (.faddr 0)⟩,
      ⟨some 26, some (22, true), [.t 25], .loadS 1 false⟩,
      ⟨some 27, some (22, true), [.t 0], .v (.mv)⟩,
      ⟨some 28, some (22, true), [.t 27], .v (.nilchk)⟩,
      ⟨some 29, some (22, true), [.t 28], .v (.faddr 1)⟩,
      ⟨some 30, some (22, true), [.t 29], .loadS 1 false⟩,
      ⟨some 31, some (22, true), [.t 26, .t 30], .v (.iaddr 3)⟩,
      ⟨some 32, some (22, true), [.t 31], .v (.faddr 0)⟩,
      ⟨some 33, some (22, true), [.t 32], .v (.loadE 1 false)⟩,
      ⟨some 34, some (22, true), [.t 1], .v (.mv)⟩,
      ⟨some 35, some (22, true), [.t 33, .t 34], .v (.bin .eql)⟩,
      ⟨some 36, none, [.t 22, .t 35, .c (.pv (.bool false))], .v (.pick)⟩,
      ⟨some 4, none, [.t 36], .v (.mv)⟩] [4])
    .ret))⟩

/- (*typedholes/typedholesref5.Reader).Atoms -/
def g130 : AFunc := ⟨1, 13, [.t 2],
  (.seq
   (.reg [⟨some 2, none, [.c (.pv (.bool false))], .v (.mv)⟩] [0])
   (.seq
    (.reg [⟨some 3, none, [.t 0], .v (.mv)⟩,
      ⟨some 4, none, [.t 3, .c (.pv (.int .i64 1))], .callI 129 []⟩,
      ⟨some 5, none, [.t 4], .v (.mv)⟩,
      ⟨some 6, some (5, false), [.t 0], .v (.mv)⟩,
      ⟨some 7, some (5, false), [.t 6, .c (.pv (.int .i64 2))], .callI 129 []⟩,
      ⟨some 8, none, [.t 5, .c (.pv (.bool true)), .t 7], .v (.pick)⟩,
      ⟨some 9, none, [.t 8], .v (.mv)⟩,
      ⟨some 10, some (9, false), [.t 0], .v (.mv)⟩,
      ⟨some 11, some (9, false), [.t 10, .c (.pv (.str [40]))], .callI 120 []⟩,
      ⟨some 12, none, [.t 9, .c (.pv (.bool true)), .t 11], .v (.pick)⟩,
      ⟨some 2, none, [.t 12], .v (.mv)⟩] [2])
    .ret))⟩

/- (*typedholes/typedholesref5.Reader).Atom -/
def g131 : AFunc := ⟨1, 28, [.c 2 5 true],
  (.seq
   (.reg [⟨some 2, none, [], .alloc 2 [.int .i64 0, .str [], .int .i64 0, .int .i64 0, .lst []]⟩] [0, 2])
   (.seq
    (.block 0
     (.seq
      (.reg [⟨some 5, none, [.t 0], .v (.mv)⟩,
        ⟨some 6, none, [.t 5, .c (.pv (.int .i64 1))], .callI 129 []⟩,
        ⟨some 4, none, [.t 6], .v (.mv)⟩] [0, 2, 4])
      (.cond (.t 4)
       (.seq
        (.reg [⟨some 7, none, [.t 0], .v (.mv)⟩,
          ⟨some 8, none, [.t 7, .c (.pv (.int .i64 1))], .callI 128 []⟩,
          ⟨some 9, none, [.t 8], .callP 106⟩,
          ⟨none, none, [.t 2, .t 9], .storeL 2 0 5⟩] [2])
        .ret)
       (.seq
        (.reg [⟨some 11, none, [.t 0], .v (.mv)⟩,
          ⟨some 12, none, [.t 11, .c (.pv (.int .i64 2))], .callI 129 []⟩,
          ⟨some 10, none, [.t 12], .v (.mv)⟩] [0, 2, 10])
        (.cond (.t 10)
         (.seq
          (.reg [⟨some 13, none, [.t 0], .v (.mv)⟩,
            ⟨some 14, none, [.t 13, .c (.pv (.int .i64 2))], .callI 128 []⟩,
            ⟨some 15, none, [.t 14, .c (.clp [])], .callI 62 []⟩,
            ⟨none, none, [.t 2, .t 15], .storeL 2 0 5⟩] [2])
          .ret)
         .skip)))))
    (.seq
     (.reg [⟨some 16, none, [.t 0], .v (.mv)⟩,
       ⟨some 17, none, [.t 16, .c (.pv (.str [40]))], .callI 127 []⟩] [0, 2])
     (.seq
      (.seq
       (.reg [⟨some 18, none, [.t 0], .v (.mv)⟩,
         ⟨some 19, none, [.t 18], .v (.nilchk)⟩,
         ⟨some 20, none, [.t 19], .v (.faddr 2)⟩,
         ⟨some 21, none, [.t 20], .loadS 1 false⟩] [0, 2, 21])
       (.cond (.t 21)
        (.seq
         (.reg [⟨some 22, none, [], .v (.build [.int .i64 0, .str [], .int .i64 0, .int .i64 0, .lst []] [])⟩,
           ⟨none, none, [.t 2, .t 22], .storeL 2 0 5⟩] [2])
         .ret)
        .skip))
      (.seq
       (.reg [⟨some 23, none, [.t 0], .v (.mv)⟩,
         ⟨some 24, none, [.t 23], .callI 133 []⟩,
         ⟨some 3, none, [], .alloc 3 [.int .i64 0, .str [], .int .i64 0, .int .i64 0, .lst []]⟩,
         ⟨none, none, [.t 3, .t 24], .storeL 3 0 5⟩] [0, 2, 3])
       (.seq
        (.reg [⟨some 25, none, [.t 0], .v (.mv)⟩,
          ⟨some 26, none, [.t 25, .c (.pv (.str [41]))], .callI 127 []⟩] [2, 3])
        (.seq
         (.reg [⟨some 27, none, [.t 3], .loadL 3 0 5 true⟩,
           ⟨none, none, [.t 2, .t 27], .storeL 2 0 5⟩] [2])
         .ret)))))))⟩

/- (*typedholes/typedholesref5.Reader).Skip -/
def g132 : AFunc := ⟨2, 15, [.t 4],
  (.seq
   (.reg [⟨some 4, none, [.c (.pv (.bool false))], .v (.mv)⟩] [0, 1])
   (.seq
    (.seq
     (.reg [⟨some 5, none, [.t 0], .v (.mv)⟩,
       ⟨some 6, none, [.t 1], .v (.mv)⟩,
       ⟨some 7, none, [.t 5, .t 6], .callI 120 []⟩] [0, 7])
     (.cond (.t 7)
      (.seq
       (.reg [⟨some 8, none, [.t 0], .v (.mv)⟩,
         ⟨some 9, none, [.t 8], .v (.nilchk)⟩,
         ⟨some 10, none, [.t 9], .v (.faddr 1)⟩,
         ⟨some 11, none, [.t 10], .loadS 1 false⟩,
         ⟨some 12, none, [.t 11, .c (.pv (.int .i64 1))], .v (.bin .add)⟩,
         ⟨some 13, none, [.t 8], .v (.nilchk)⟩,
         ⟨some 14, none, [.t 13], .v (.faddr 1)⟩,
         ⟨none, none, [.t 14, .t 12], .storeS 1⟩] [])
       (.seq
        (.reg [⟨some 4, none, [.c (.pv (.bool true))], .v (.mv)⟩] [4])
        .ret))
      .skip))
    (.seq
     (.reg [⟨some 4, none, [.c (.pv (.bool false))], .v (.mv)⟩] [4])
     .ret)))⟩

/- (*typedholes/typedholesref5.Reader).Type -/
def g133B0 : ACode :=
  (.seq
   (.seq
    (.reg [⟨some 9, none, [.t 0], .v (.mv)⟩,
      ⟨some 10, none, [.t 9], .callI 130 []⟩] [0, 2, 3, 10])
    (.cond (.t 10)
     .skip
     (.exit 0)))
   (.block 1
    (.reg [⟨some 11, none, [.t 3], .v (.faddr 4)⟩,
      ⟨some 12, none, [.t 11], .loadL 3 4 1 false⟩,
      ⟨some 13, none, [.t 0], .v (.mv)⟩,
      ⟨some 14, none, [.t 13], .callI 131 []⟩,
      ⟨some 15, none, [.t 14], .v (.bslice 5)⟩,
      ⟨some 16, none, [.t 12, .t 15], .append 5 64⟩,
      ⟨some 17, none, [.t 3], .v (.faddr 4)⟩,
      ⟨none, none, [.t 17, .t 16], .storeL 3 4 1⟩] [0, 2, 3])))
def g133L0 : ACode := .loop [0, 2, 3] g133B0
theorem g133L0_eq {AP : Nat → Option AFunc} {st : St} : cl AP g133L0 st = after (cl AP g133L0) (cl AP g133B0 (norm (restrict [0, 2, 3] st))) := cl_loop
def g133 : AFunc := ⟨1, 27, [.c 2 5 true],
  (.seq
   (.reg [⟨some 2, none, [], .alloc 2 [.int .i64 0, .str [], .int .i64 0, .int .i64 0, .lst []]⟩] [0, 2])
   (.seq
    (.reg [⟨some 3, none, [], .alloc 3 [.int .i64 0, .str [], .int .i64 0, .int .i64 0, .lst []]⟩] [0, 2, 3])
    (.seq
     (.seq
      (.reg [⟨some 4, none, [.t 0], .v (.mv)⟩,
        ⟨some 5, none, [.t 4, .c (.pv (.int .i64 2))], .callI 129 []⟩] [0, 2, 3, 5])
      (.cond (.t 5)
       (.seq
        (.reg [⟨some 6, none, [.t 0], .v (.mv)⟩,
          ⟨some 7, none, [.t 6, .c (.pv (.int .i64 2))], .callI 128 []⟩,
          ⟨some 8, none, [.t 7, .c (.clp [])], .callI 62 []⟩,
          ⟨none, none, [.t 3, .t 8], .storeL 3 0 5⟩] [0, 2, 3])
        (.block 0
         g133L0))
       (.reg [⟨some 18, none, [.t 0], .v (.mv)⟩,
         ⟨some 19, none, [.t 18], .callI 131 []⟩,
         ⟨none, none, [.t 3, .t 19], .storeL 3 0 5⟩] [0, 2, 3])))
     (.seq
      (.seq
       (.reg [⟨some 20, none, [.t 0], .v (.mv)⟩,
         ⟨some 21, none, [.t 20, .c (.pv (.str [45, 62]))], .callI 132 []⟩] [0, 2, 3, 21])
       (.cond (.t 21)
        (.seq
         (.reg [⟨some 22, none, [.t 3], .loadL 3 0 5 true⟩,
           ⟨some 23, none, [.t 0], .v (.mv)⟩,
           ⟨some 24, none, [.t 23], .callI 133 []⟩,
           ⟨some 25, none, [.t 22, .t 24], .callP 69⟩,
           ⟨none, none, [.t 2, .t 25], .storeL 2 0 5⟩] [2])
         .ret)
        .skip))
      (.seq
       (.reg [⟨some 26, none, [.t 3], .loadL 3 0 5 true⟩,
         ⟨none, none, [.t 2, .t 26], .storeL 2 0 5⟩] [2])
       .ret)))))⟩

/- typedholes/typedholesref6.Read -/
def g134B0 : ACode :=
  (.seq
   (.seq
    (.reg [⟨some 69, none, [.t 0], .v (.mv)⟩,
      ⟨some 70, none, [.t 69], .v (.nilchk)⟩,
      ⟨some 71, none, [.t 70], .v (.faddr 2)⟩,
      ⟨some 72, none, [.t 71], .loadS 1 false⟩,
      ⟨some 73, none, [.t 72], .v (.un .not)⟩,
      ⟨some 74, none, [.t 73], .v (.mv)⟩,
      ⟨some 75, some (74, true), [.t 0], .v (.mv)⟩,
      ⟨some 76, some (74, true), [.t 75], .v (.nilchk)⟩,
      ⟨some 77, some (74, true), [.t 76], .v (.faddr 1)⟩,
      ⟨some 78, some (74, true), [.t 77], .loadS 1 false⟩,
      ⟨some 79, some (74, true), [.t 0], .v (.mv)⟩,
      ⟨some 80, some (74, true), [.t 79], .v (.nilchk)⟩,
      ⟨some 81, some (74, true), [.t 80], .v (.faddr 0)⟩,
      ⟨some 82, some (74, true), [.t 81], .loadS 1 false⟩,
      ⟨some 83, some (74, true), [.t 82], .v (.len)⟩,
      ⟨some 84, some (74, true), [.t 78, .t 83], .v (.bin .lss)⟩,
      ⟨some 85, none, [.t 74, .t 84, .c (.pv (.bool false))], .v (.pick)⟩,
      ⟨some 86, none, [.t 85], .v (.mv)⟩,
      ⟨some 87, some (86, true), [.t 0], .v (.mv)⟩,
      ⟨some 88, some (86, true), [.t 87], .v (.nilchk)⟩,
      ⟨some 89, some (86, true), [.t 88], .v (.faddr 0)⟩,
      ⟨some 90, some (86, true), [.t 89], .loadS 1 false⟩,
      ⟨some 91, some (86, true), [.t 0], .v (.mv)⟩,
      ⟨some 92, some (86, true), [.t 91], .v (.nilchk)⟩,
      ⟨some 93, some (86, true), [.t 92], .v (.faddr 1)⟩,
      ⟨some 94, some (86, true), [.t 93], .loadS 1 false⟩,
      ⟨some 95, some (86, true), [.t 90, .t 94], .v (.iaddr 3)⟩,
      ⟨some 96, some (86, true), [.t 95], .v (.loadE 3 true)⟩,
      ⟨some 97, some (86, true), [.t 96], .callP 142⟩,
      ⟨some 98, none, [.t 86, .t 97, .c (.pv (.bool false))], .v (.pick)⟩] [0, 2, 8, 98])
    (.cond (.t 98)
     .skip
     (.exit 1)))
   (.block 2
    (.seq
     (.reg [⟨some 99, none, [.t 0], .v (.mv)⟩,
       ⟨some 100, none, [.t 99], .callI 141 []⟩,
       ⟨some 9, none, [], .alloc 9 [.int .i64 0, .int .i64 0, .str [], .int .i64 0, .lst [], .lst [], .int .i64 0, .str [], .int .i64 0, .int .i64 0, .lst []]⟩,
       ⟨none, none, [.t 9, .t 100], .storeL 9 0 11⟩] [0, 2, 8, 9])
     (.reg [⟨some 101, none, [.t 8], .v (.faddr 1)⟩,
       ⟨some 102, none, [.t 101], .loadL 8 1 1 false⟩,
       ⟨some 103, none, [.t 8], .loadL 8 0 11 true⟩,
       ⟨some 104, none, [.t 9], .loadL 9 0 11 true⟩,
       ⟨some 105, none, [.t 103, .t 104], .v (.bslice 11)⟩,
       ⟨some 106, none, [.c (.pv (.int .i64 5)), .t 102, .t 105], .v (.build [.int .i64 0, .int .i64 0, .str [], .int .i64 0, .lst [], .lst [], .int .i64 0, .str [], .int .i64 0, .int .i64 0, .lst []] [(0, 1), (1, 1), (4, 1)])⟩,
       ⟨none, none, [.t 8, .t 106], .storeL 8 0 11⟩] [0, 2, 8]))))
def g134L0 : ACode := .loop [0, 2, 8] g134B0
theorem g134L0_eq {AP : Nat → Option AFunc} {st : St} : cl AP g134L0 st = after (cl AP g134L0) (cl AP g134B0 (norm (restrict [0, 2, 8] st))) := cl_loop
def g134 : AFunc := ⟨1, 108, [.c 2 11 true],
  (.seq
   (.reg [⟨some 2, none, [], .alloc 2 [.int .i64 0, .int .i64 0, .str [], .int .i64 0, .lst [], .lst [], .int .i64 0, .str [], .int .i64 0, .int .i64 0, .lst []]⟩] [0, 2])
   (.seq
    (.reg [⟨some 10, none, [.t 0], .v (.mv)⟩,
      ⟨some 11, none, [.t 10], .callI 126 []⟩,
      ⟨some 3, none, [.t 11], .v (.mv)⟩] [0, 2, 3])
    (.seq
     (.block 0
      (.seq
       (.reg [⟨some 13, none, [.t 0], .v (.mv)⟩,
         ⟨some 14, none, [.t 13, .c (.pv (.str [92]))], .callI 132 []⟩,
         ⟨some 12, none, [.t 14], .v (.mv)⟩] [0, 2, 3, 12])
       (.cond (.t 12)
        (.seq
         (.reg [⟨some 15, none, [.t 0], .v (.mv)⟩,
           ⟨some 16, none, [.t 15, .c (.pv (.int .i64 1))], .callI 128 []⟩,
           ⟨some 4, none, [.t 16], .v (.mv)⟩] [0, 2, 3, 4])
         (.seq
          (.reg [⟨some 17, none, [.t 0], .v (.mv)⟩,
            ⟨some 18, none, [.t 17, .c (.pv (.str [46]))], .callI 127 []⟩] [0, 2, 3, 4])
          (.seq
           (.seq
            (.reg [⟨some 19, none, [.t 0], .v (.mv)⟩,
              ⟨some 20, none, [.t 19], .v (.nilchk)⟩,
              ⟨some 21, none, [.t 20], .v (.faddr 2)⟩,
              ⟨some 22, none, [.t 21], .loadS 1 false⟩] [0, 2, 3, 4, 22])
            (.cond (.t 22)
             (.seq
              (.reg [⟨some 23, none, [], .v (.build [.int .i64 0, .int .i64 0, .str [], .int .i64 0, .lst [], .lst [], .int .i64 0, .str [], .int .i64 0, .int .i64 0, .lst []] [])⟩,
                ⟨none, none, [.t 2, .t 23], .storeL 2 0 11⟩] [2])
              .ret)
             .skip))
           (.seq
            (.reg [⟨some 24, none, [.t 3], .v (.mv)⟩,
              ⟨some 25, none, [.t 4], .v (.mv)⟩,
              ⟨some 26, none, [.t 0], .v (.mv)⟩,
              ⟨some 27, none, [.t 26], .callI 134 []⟩,
              ⟨some 28, none, [.t 27], .v (.bslice 11)⟩,
              ⟨some 29, none, [.c (.pv (.int .i64 4)), .t 24, .t 25, .t 28], .v (.build [.int .i64 0, .int .i64 0, .str [], .int .i64 0, .lst [], .lst [], .int .i64 0, .str [], .int .i64 0, .int .i64 0, .lst []] [(0, 1), (1, 1), (2, 1), (4, 1)])⟩,
              ⟨none, none, [.t 2, .t 29], .storeL 2 0 11⟩] [2])
            .ret))))
        (.seq
         (.reg [⟨some 31, none, [.t 0], .v (.mv)⟩,
           ⟨some 32, none, [.t 31, .c (.pv (.str [108, 101, 116]))], .callI 132 []⟩,
           ⟨some 30, none, [.t 32], .v (.mv)⟩] [0, 2, 3, 30])
         (.cond (.t 30)
          (.seq
           (.reg [⟨some 5, none, [.c (.pv (.int .i64 6))], .v (.mv)⟩] [0, 2, 3, 5])
           (.seq
            (.seq
             (.reg [⟨some 33, none, [.t 0], .v (.mv)⟩,
               ⟨some 34, none, [.t 33, .c (.pv (.str [114, 101, 99]))], .callI 132 []⟩] [0, 2, 3, 5, 34])
             (.cond (.t 34)
              (.reg [⟨some 5, none, [.c (.pv (.int .i64 7))], .v (.mv)⟩] [0, 2, 3, 5])
              .skip))
            (.seq
             (.reg [⟨some 35, none, [.t 0], .v (.mv)⟩,
               ⟨some 36, none, [.t 35, .c (.pv (.int .i64 1))], .callI 128 []⟩,
               ⟨some 6, none, [.t 36], .v (.mv)⟩] [0, 2, 3, 5, 6])
             (.seq
              (.reg [⟨some 37, none, [.t 0], .v (.mv)⟩,
                ⟨some 38, none, [.t 37, .c (.pv (.str [61]))], .callI 127 []⟩] [0, 2, 3, 5, 6])
              (.seq
               (.seq
                (.reg [⟨some 39, none, [.t 0], .v (.mv)⟩,
                  ⟨some 40, none, [.t 39], .v (.nilchk)⟩,
                  ⟨some 41, none, [.t 40], .v (.faddr 2)⟩,
                  ⟨some 42, none, [.t 41], .loadS 1 false⟩] [0, 2, 3, 5, 6, 42])
                (.cond (.t 42)
                 (.seq
                  (.reg [⟨some 43, none, [], .v (.build [.int .i64 0, .int .i64 0, .str [], .int .i64 0, .lst [], .lst [], .int .i64 0, .str [], .int .i64 0, .int .i64 0, .lst []] [])⟩,
                    ⟨none, none, [.t 2, .t 43], .storeL 2 0 11⟩] [2])
                  .ret)
                 .skip))
               (.seq
                (.reg [⟨some 44, none, [.t 0], .v (.mv)⟩,
                  ⟨some 45, none, [.t 44], .callI 134 []⟩,
                  ⟨some 7, none, [], .alloc 7 [.int .i64 0, .int .i64 0, .str [], .int .i64 0, .lst [], .lst [], .int .i64 0, .str [], .int .i64 0, .int .i64 0, .lst []]⟩,
                  ⟨none, none, [.t 7, .t 45], .storeL 7 0 11⟩] [0, 2, 3, 5, 6, 7])
                (.seq
                 (.reg [⟨some 46, none, [.t 0], .v (.mv)⟩,
                   ⟨some 47, none, [.t 46, .c (.pv (.str [105, 110]))], .callI 127 []⟩] [0, 2, 3, 5, 6, 7])
                 (.seq
                  (.seq
                   (.reg [⟨some 48, none, [.t 0], .v (.mv)⟩,
                     ⟨some 49, none, [.t 48], .v (.nilchk)⟩,
                     ⟨some 50, none, [.t 49], .v (.faddr 2)⟩,
                     ⟨some 51, none, [.t 50], .loadS 1 false⟩] [0, 2, 3, 5, 6, 7, 51])
                   (.cond (.t 51)
                    (.seq
                     (.reg [⟨some 52, none, [], .v (.build [.int .i64 0, .int .i64 0, .str [], .int .i64 0, .lst [], .lst [], .int .i64 0, .str [], .int .i64 0, .int .i64 0, .lst []] [])⟩,
                       ⟨none, none, [.t 2, .t 52], .storeL 2 0 11⟩] [2])
                     .ret)
                    .skip))
                  (.seq
                   (.reg [⟨some 53, none, [.t 5], .v (.mv)⟩,
                     ⟨some 54, none, [.t 3], .v (.mv)⟩,
                     ⟨some 55, none, [.t 6], .v (.mv)⟩,
                     ⟨some 56, none, [.t 7], .loadL 7 0 11 true⟩,
                     ⟨some 57, none, [.t 0], .v (.mv)⟩,
                     ⟨some 58, none, [.t 57], .callI 134 []⟩,
                     ⟨some 59, none, [.t 56, .t 58], .v (.bslice 11)⟩,
                     ⟨some 60, none, [.t 53, .t 54, .t 55, .t 59], .v (.build [.int .i64 0, .int .i64 0, .str [], .int .i64 0, .lst [], .lst [], .int .i64 0, .str [], .int .i64 0, .int .i64 0, .lst []] [(0, 1), (1, 1), (2, 1), (4, 1)])⟩,
                     ⟨none, none, [.t 2, .t 60], .storeL 2 0 11⟩] [2])
                   .ret)))))))))
          (.seq
           (.reg [⟨some 62, none, [.t 0], .v (.mv)⟩,
             ⟨some 63, none, [.t 62, .c (.pv (.str [99, 97, 115, 101]))], .callI 132 []⟩,
             ⟨some 61, none, [.t 63], .v (.mv)⟩] [0, 2, 3, 61])
           (.cond (.t 61)
            (.seq
             (.reg [⟨some 64, none, [.t 0], .v (.mv)⟩,
               ⟨some 65, none, [.t 3], .v (.mv)⟩,
               ⟨some 66, none, [.t 64, .t 65], .callI 140 []⟩,
               ⟨none, none, [.t 2, .t 66], .storeL 2 0 11⟩] [2])
             .ret)
            .skip)))))))
     (.seq
      (.reg [⟨some 67, none, [.t 0], .v (.mv)⟩,
        ⟨some 68, none, [.t 67], .callI 141 []⟩,
        ⟨some 8, none, [], .alloc 8 [.int .i64 0, .int .i64 0, .str [], .int .i64 0, .lst [], .lst [], .int .i64 0, .str [], .int .i64 0, .int .i64 0, .lst []]⟩,
        ⟨none, none, [.t 8, .t 68], .storeL 8 0 11⟩] [0, 2, 8])
      (.seq
       (.block 1
        g134L0)
       (.seq
        (.reg [⟨some 107, none, [.t 8], .loadL 8 0 11 true⟩,
          ⟨none, none, [.t 2, .t 107], .storeL 2 0 11⟩] [2])
        .ret))))))⟩

/- typedholes/typedholesref7.deepExpr -/
def g135 : AFunc := ⟨1, 10, [.t 2],
  (.seq
   (.reg [⟨some 1, none, [.t 0], .box 1 11⟩,
     ⟨some 2, none, [.c (.pv (.bool false))], .v (.mv)⟩] [1])
   (.seq
    (.reg [⟨some 3, none, [.t 1], .loadL 1 0 11 true⟩,
      ⟨some 4, none, [.t 3], .callP 143⟩,
      ⟨some 5, none, [.t 4, .c (.pv (.int .i64 40))], .v (.bin .gtr)⟩,
      ⟨some 6, none, [.t 5], .v (.mv)⟩,
      ⟨some 7, some (6, false), [.t 1], .loadL 1 0 11 true⟩,
      ⟨some 8, some (6, false), [.t 7], .callP 144⟩,
      ⟨some 9, none, [.t 6, .c (.pv (.bool true)), .t 8], .v (.pick)⟩,
      ⟨some 2, none, [.t 9], .v (.mv)⟩] [2])
    .ret))⟩

/- typedholes/typedholesref7.wide -/
def g136B0 : ACode :=
  (.seq
   (.seq
    (.reg [⟨some 9, none, [.t 4], .v (.mv)⟩,
      ⟨some 10, none, [.t 1], .v (.faddr 5)⟩,
      ⟨some 11, none, [.t 10], .loadL 1 5 1 false⟩,
      ⟨some 12, none, [.t 11], .v (.len)⟩,
      ⟨some 13, none, [.t 9, .t 12], .v (.bin .lss)⟩] [1, 4, 13])
    (.cond (.t 13)
     .skip
     (.exit 0)))
   (.seq
    (.block 1
     (.seq
      (.reg [⟨some 16, none, [.t 1], .v (.faddr 5)⟩,
        ⟨some 17, none, [.t 16], .loadL 1 5 1 false⟩,
        ⟨some 18, none, [.t 4], .v (.mv)⟩,
        ⟨some 19, none, [.t 17, .t 18], .v (.iaddr 14)⟩,
        ⟨some 20, none, [.t 19], .v (.faddr 2)⟩,
        ⟨some 21, none, [.t 20], .v (.loadE 1 false)⟩,
        ⟨some 22, none, [.t 21], .v (.len)⟩,
        ⟨some 23, none, [.t 22, .c (.pv (.int .i64 4))], .v (.bin .gtr)⟩] [1, 4, 23])
      (.cond (.t 23)
       (.seq
        (.reg [⟨some 24, none, [.t 1], .v (.faddr 5)⟩,
          ⟨some 25, none, [.t 24], .loadL 1 5 1 false⟩,
          ⟨some 26, none, [.t 4], .v (.mv)⟩,
          ⟨some 27, none, [.t 25, .t 26], .v (.iaddr 14)⟩,
          ⟨some 28, none, [.t 27], .v (.faddr 0)⟩,
          ⟨some 29, none, [.t 28], .v (.loadE 1 false)⟩,
          ⟨some 2, none, [.t 29], .v (.mv)⟩,
          ⟨some 3, none, [.c (.pv (.bool true))], .v (.mv)⟩] [2, 3])
        .ret)
       .skip)))
    (.reg [⟨some 14, none, [.t 4], .v (.mv)⟩,
      ⟨some 15, none, [.t 14, .c (.pv (.int .i64 1))], .v (.bin .add)⟩,
      ⟨some 4, none, [.t 15], .v (.mv)⟩] [1, 4])))
def g136L0 : ACode := .loop [1, 4] g136B0
theorem g136L0_eq {AP : Nat → Option AFunc} {st : St} : cl AP g136L0 st = after (cl AP g136L0) (cl AP g136B0 (norm (restrict [1, 4] st))) := cl_loop
def g136B1 : ACode :=
  (.seq
   (.seq
    (.reg [⟨some 32, none, [.t 6], .v (.mv)⟩,
      ⟨some 33, none, [.t 5], .v (.mv)⟩,
      ⟨some 34, none, [.t 33], .v (.len)⟩,
      ⟨some 35, none, [.t 32, .t 34], .v (.bin .lss)⟩] [5, 6, 35])
    (.cond (.t 35)
     .skip
     (.exit 2)))
   (.seq
    (.block 3
     (.seq
      (.reg [⟨some 39, none, [.t 5], .v (.mv)⟩,
        ⟨some 40, none, [.t 6], .v (.mv)⟩,
        ⟨some 41, none, [.t 39, .t 40], .v (.iaddr 11)⟩,
        ⟨some 42, none, [.t 41], .v (.loadE 11 true)⟩,
        ⟨some 43, none, [.t 42], .callP 136⟩,
        ⟨some 38, none, [.t 43], .v (.mv)⟩,
        ⟨some 44, none, [.t 38], .v (.ext 0)⟩,
        ⟨some 45, none, [.t 38], .v (.ext 1)⟩,
        ⟨some 7, none, [.t 44], .v (.mv)⟩,
        ⟨some 8, none, [.t 45], .v (.mv)⟩] [5, 6, 7, 8])
      (.seq
       (.reg [⟨some 46, none, [.t 8], .v (.mv)⟩] [5, 6, 7, 46])
       (.cond (.t 46)
        (.seq
         (.reg [⟨some 47, none, [.t 7], .v (.mv)⟩,
           ⟨some 2, none, [.t 47], .v (.mv)⟩,
           ⟨some 3, none, [.c (.pv (.bool true))], .v (.mv)⟩] [2, 3])
         .ret)
        .skip))))
    (.reg [⟨some 36, none, [.t 6], .v (.mv)⟩,
      ⟨some 37, none, [.t 36, .c (.pv (.int .i64 1))], .v (.bin .add)⟩,
      ⟨some 6, none, [.t 37], .v (.mv)⟩] [5, 6])))
def g136L1 : ACode := .loop [5, 6] g136B1
theorem g136L1_eq {AP : Nat → Option AFunc} {st : St} : cl AP g136L1 st = after (cl AP g136L1) (cl AP g136B1 (norm (restrict [5, 6] st))) := cl_loop
def g136 : AFunc := ⟨1, 48, [.t 2, .t 3],
  (.seq
   (.reg [⟨some 1, none, [.t 0], .box 1 11⟩,
     ⟨some 2, none, [.c (.pv (.int .i64 0))], .v (.mv)⟩,
     ⟨some 3, none, [.c (.pv (.bool false))], .v (.mv)⟩] [1])
   (.seq
    (.seq
     (.reg [⟨some 4, none, [.c (.pv (.int .i64 0))], .v (.mv)⟩] [1, 4])
     (.block 0
      g136L0))
    (.seq
     (.reg [⟨some 30, none, [.t 1], .loadL 1 0 11 true⟩,
       ⟨some 31, none, [.t 30], .callP 145⟩,
       ⟨some 5, none, [.t 31], .v (.mv)⟩] [5])
     (.seq
      (.seq
       (.reg [⟨some 6, none, [.c (.pv (.int .i64 0))], .v (.mv)⟩] [5, 6])
       (.block 2
        g136L1))
      (.seq
       (.reg [⟨some 2, none, [.c (.pv (.int .i64 0))], .v (.mv)⟩,
         ⟨some 3, none, [.c (.pv (.bool false))], .v (.mv)⟩] [2, 3])
       .ret)))))⟩

/- typedholes/typedholesref2.Integer -/
def g137B0 : ACode :=
  (.seq
   (.seq
    (.reg [⟨some 21, none, [.t 3], .v (.mv)⟩,
      ⟨some 22, none, [.t 0], .v (.mv)⟩,
      ⟨some 23, none, [.t 22], .v (.lenS)⟩,
      ⟨some 24, none, [.t 21, .t 23], .v (.bin .lss)⟩] [0, 3, 24])
    (.cond (.t 24)
     .skip
     (.exit 0)))
   (.seq
    (.block 1
     (.seq
      (.reg [⟨some 27, none, [.t 0], .v (.mv)⟩,
        ⟨some 28, none, [.t 3], .v (.mv)⟩,
        ⟨some 29, none, [.t 27, .t 28], .v (.index)⟩,
        ⟨some 30, none, [.t 29], .callP 124⟩,
        ⟨some 31, none, [.t 30], .v (.un .not)⟩] [0, 3, 31])
      (.cond (.t 31)
       (.seq
        (.reg [⟨some 2, none, [.c (.pv (.bool false))], .v (.mv)⟩] [2])
        .ret)
       .skip)))
    (.reg [⟨some 25, none, [.t 3], .v (.mv)⟩,
      ⟨some 26, none, [.t 25, .c (.pv (.int .i64 1))], .v (.bin .add)⟩,
      ⟨some 3, none, [.t 26], .v (.mv)⟩] [0, 3])))
def g137L0 : ACode := .loop [0, 3] g137B0
theorem g137L0_eq {AP : Nat → Option AFunc} {st : St} : cl AP g137L0 st = after (cl AP g137L0) (cl AP g137B0 (norm (restrict [0, 3] st))) := cl_loop
def g137 : AFunc := ⟨1, 32, [.t 2],
  (.seq
   (.reg [⟨some 2, none, [.c (.pv (.bool false))], .v (.mv)⟩] [0])
   (.seq
    (.seq
     (.reg [⟨some 4, none, [.t 0], .v (.mv)⟩,
       ⟨some 5, none, [.t 4, .c (.pv (.str []))], .v (.bin .eql)⟩,
       ⟨some 6, none, [.t 5], .v (.mv)⟩,
       ⟨some 7, some (6, false), [.t 0], .v (.mv)⟩,
       ⟨some 8, some (6, false), [.t 7], .v (.lenS)⟩,
       ⟨some 9, some (6, false), [.t 8, .c (.pv (.int .i64 9))], .v (.bin .gtr)⟩,
       ⟨some 10, none, [.t 6, .c (.pv (.bool true)), .t 9], .v (.pick)⟩,
       ⟨some 11, none, [.t 10], .v (.mv)⟩,
       ⟨some 12, some (11, false), [.t 0], .v (.mv)⟩,
       ⟨some 13, some (11, false), [.t 12, .c (.pv (.int .i64 0))], .v (.index)⟩,
       ⟨some 14, some (11, false), [.t 13, .c (.pv (.int .u8 48))], .v (.bin .eql)⟩,
       ⟨some 15, some (11, false), [.t 14], .v (.mv)⟩,
       ⟨some 16, some (15, true), [.t 0], .v (.mv)⟩,
       ⟨some 17, some (15, true), [.t 16], .v (.lenS)⟩,
       ⟨some 18, some (15, true), [.t 17, .c (.pv (.int .i64 1))], .v (.bin .gtr)⟩,
       ⟨some 19, some (11, false), [.t 15, .t 18, .c (.pv (.bool false))], .v (.pick)⟩,
       ⟨some 20, none, [.t 11, .c (.pv (.bool true)), .t 19], .v (.pick)⟩] [0, 20])
     (.cond (.t 20)
      (.seq
       (.reg [⟨some 2, none, [.c (.pv (.bool false))], .v (.mv)⟩] [2])
       .ret)
      .skip))
    (.seq
     (.seq
      (.reg [⟨some 3, none, [.c (.pv (.int .i64 0))], .v (.mv)⟩] [0, 3])
      (.block 0
       g137L0))
     (.seq
      (.reg [⟨some 2, none, [.c (.pv (.bool true))], .v (.mv)⟩] [2])
      .ret))))⟩

/- typedholes/typedholesref2.mark -/
def g138B0 : ACode :=
  (.seq
   (.seq
    (.reg [⟨some 6, none, [.t 3], .v (.mv)⟩,
      ⟨some 7, none, [.t 6, .c (.pv (.int .i64 11))], .v (.bin .lss)⟩] [0, 3, 7])
    (.cond (.t 7)
     .skip
     (.exit 0)))
   (.seq
    (.block 1
     (.seq
      (.reg [⟨some 10, none, [.t 0], .v (.mv)⟩,
        ⟨some 11, none, [.t 3], .v (.mv)⟩,
        ⟨some 12, none, [.t 3], .v (.mv)⟩,
        ⟨some 13, none, [.t 12, .c (.pv (.int .i64 1))], .v (.bin .add)⟩,
        ⟨some 14, none, [.c (.pv (.str [92, 46, 61, 59, 58, 124, 40, 41, 123, 125, 63])), .t 11, .t 13], .v (.slice true 0 true true false)⟩,
        ⟨some 15, none, [.t 10, .t 14], .v (.bin .eql)⟩] [0, 3, 15])
      (.cond (.t 15)
       (.seq
        (.reg [⟨some 2, none, [.c (.pv (.bool true))], .v (.mv)⟩] [2])
        .ret)
       .skip)))
    (.reg [⟨some 8, none, [.t 3], .v (.mv)⟩,
      ⟨some 9, none, [.t 8, .c (.pv (.int .i64 1))], .v (.bin .add)⟩,
      ⟨some 3, none, [.t 9], .v (.mv)⟩] [0, 3])))
def g138L0 : ACode := .loop [0, 3] g138B0
theorem g138L0_eq {AP : Nat → Option AFunc} {st : St} : cl AP g138L0 st = after (cl AP g138L0) (cl AP g138B0 (norm (restrict [0, 3] st))) := cl_loop
def g138 : AFunc := ⟨1, 16, [.t 2],
  (.seq
   (.reg [⟨some 2, none, [.c (.pv (.bool false))], .v (.mv)⟩] [0])
   (.seq
    (.seq
     (.reg [⟨some 4, none, [.t 0], .v (.mv)⟩,
       ⟨some 5, none, [.t 4, .c (.pv (.str [45, 62]))], .v (.bin .eql)⟩] [0, 5])
     (.cond (.t 5)
      (.seq
       (.reg [⟨some 2, none, [.c (.pv (.bool true))], .v (.mv)⟩] [2])
       .ret)
      .skip))
    (.seq
     (.seq
      (.reg [⟨some 3, none, [.c (.pv (.int .i64 0))], .v (.mv)⟩] [0, 3])
      (.block 0
       g138L0))
     (.seq
      (.reg [⟨some 2, none, [.c (.pv (.bool false))], .v (.mv)⟩] [2])
      .ret))))⟩

/- (*typedholes/typedholesref5.Reader).Fail -/
def g139 : AFunc := ⟨1, 63, [],
  (.seq
   (.seq
    (.reg [⟨some 3, none, [.t 0], .v (.mv)⟩,
      ⟨some 4, none, [.t 3], .v (.nilchk)⟩,
      ⟨some 5, none, [.t 4], .v (.faddr 2)⟩,
      ⟨some 6, none, [.t 5], .loadS 1 false⟩] [0, 6])
    (.cond (.t 6)
     .ret
     .skip))
   (.seq
    (.reg [⟨some 7, none, [.t 0], .v (.mv)⟩,
      ⟨some 8, none, [.t 7], .v (.nilchk)⟩,
      ⟨some 9, none, [.t 8], .v (.faddr 2)⟩,
      ⟨none, none, [.t 9, .c (.pv (.bool true))], .storeS 1⟩] [0])
    (.block 0
     (.seq
      (.reg [⟨some 11, none, [.t 0], .v (.mv)⟩,
        ⟨some 12, none, [.t 11], .v (.nilchk)⟩,
        ⟨some 13, none, [.t 12], .v (.faddr 1)⟩,
        ⟨some 14, none, [.t 13], .loadS 1 false⟩,
        ⟨some 15, none, [.t 0], .v (.mv)⟩,
        ⟨some 16, none, [.t 15], .v (.nilchk)⟩,
        ⟨some 17, none, [.t 16], .v (.faddr 0)⟩,
        ⟨some 18, none, [.t 17], .loadS 1 false⟩,
        ⟨some 19, none, [.t 18], .v (.len)⟩,
        ⟨some 20, none, [.t 14, .t 19], .v (.bin .lss)⟩,
        ⟨some 10, none, [.t 20], .v (.mv)⟩] [0, 10])
      (.cond (.t 10)
       (.reg [⟨some 21, none, [.t 0], .v (.mv)⟩,
         ⟨some 22, none, [.t 0], .v (.mv)⟩,
         ⟨some 23, none, [.t 22], .v (.nilchk)⟩,
         ⟨some 24, none, [.t 23], .v (.faddr 0)⟩,
         ⟨some 25, none, [.t 24], .loadS 1 false⟩,
         ⟨some 26, none, [.t 0], .v (.mv)⟩,
         ⟨some 27, none, [.t 26], .v (.nilchk)⟩,
         ⟨some 28, none, [.t 27], .v (.faddr 1)⟩,
         ⟨some 29, none, [.t 28], .loadS 1 false⟩,
         ⟨some 30, none, [.t 25, .t 29], .v (.iaddr 3)⟩,
         ⟨some 31, none, [.t 30], .v (.faddr 2)⟩,
         ⟨some 32, none, [.t 31], .v (.loadE 1 false)⟩,
         ⟨some 33, none, [.t 21], .v (.nilchk)⟩,
         ⟨some 34, none, [.t 33], .v (.faddr 3)⟩,
         ⟨none, none, [.t 34, .t 32], .storeS 1⟩] [])
       (.seq
        (.reg [⟨some 36, none, [.t 0], .v (.mv)⟩,
          ⟨some 37, none, [.t 36], .v (.nilchk)⟩,
          ⟨some 38, none, [.t 37], .v (.faddr 0)⟩,
          ⟨some 39, none, [.t 38], .loadS 1 false⟩,
          ⟨some 40, none, [.t 39], .v (.len)⟩,
          ⟨some 41, none, [.t 40, .c (.pv (.int .i64 0))], .v (.bin .gtr)⟩,
          ⟨some 35, none, [.t 41], .v (.mv)⟩] [0, 35])
        (.cond (.t 35)
         (.seq
          (.reg [⟨some 42, none, [.t 0], .v (.mv)⟩,
            ⟨some 43, none, [.t 42], .v (.nilchk)⟩,
            ⟨some 44, none, [.t 43], .v (.faddr 0)⟩,
            ⟨some 45, none, [.t 44], .loadS 1 false⟩,
            ⟨some 46, none, [.t 0], .v (.mv)⟩,
            ⟨some 47, none, [.t 46], .v (.nilchk)⟩,
            ⟨some 48, none, [.t 47], .v (.faddr 0)⟩,
            ⟨some 49, none, [.t 48], .loadS 1 false⟩,
            ⟨some 50, none, [.t 49], .v (.len)⟩,
            ⟨some 51, none, [.t 50, .c (.pv (.int .i64 1))], .v (.bin .sub)⟩,
            ⟨some 52, none, [.t 45, .t 51], .v (.iaddr 3)⟩,
            ⟨some 53, none, [.t 52], .v (.loadE 3 true)⟩,
            ⟨some 2, none, [], .alloc 2 [.int .i64 0, .str [], .int .i64 0]⟩,
            ⟨none, none, [.t 2, .t 53], .storeL 2 0 3⟩] [0, 2])
          (.reg [⟨some 54, none, [.t 0], .v (.mv)⟩,
            ⟨some 55, none, [.t 2], .v (.faddr 2)⟩,
            ⟨some 56, none, [.t 55], .loadL 2 2 1 false⟩,
            ⟨some 57, none, [.t 2], .v (.faddr 1)⟩,
            ⟨some 58, none, [.t 57], .loadL 2 1 1 false⟩,
            ⟨some 59, none, [.t 58], .v (.lenS)⟩,
            ⟨some 60, none, [.t 56, .t 59], .v (.bin .add)⟩,
            ⟨some 61, none, [.t 54], .v (.nilchk)⟩,
            ⟨some 62, none, [.t 61], .v (.faddr 3)⟩,
            ⟨none, none, [.t 62, .t 60], .storeS 1⟩] []))
         .skip)))))))⟩

/- typedholes/typedholesref6.cases -/
def g140B1 : ACode :=
  (.seq
   (.seq
    (.reg [⟨some 19, none, [.t 0], .v (.mv)⟩,
      ⟨some 20, none, [.t 19, .c (.pv (.int .i64 1))], .callI 129 []⟩] [0, 4, 5, 6, 20])
    (.cond (.t 20)
     .skip
     (.exit 2)))
   (.block 3
    (.reg [⟨some 21, none, [.t 6], .v (.faddr 2)⟩,
      ⟨some 22, none, [.t 21], .loadL 6 2 1 false⟩,
      ⟨some 23, none, [.t 0], .v (.mv)⟩,
      ⟨some 24, none, [.t 23, .c (.pv (.int .i64 1))], .callI 128 []⟩,
      ⟨some 25, none, [.t 24], .v (.bslice 1)⟩,
      ⟨some 26, none, [.t 22, .t 25], .append 1 16⟩,
      ⟨some 27, none, [.t 6], .v (.faddr 2)⟩,
      ⟨none, none, [.t 27, .t 26], .storeL 6 2 1⟩] [0, 4, 5, 6])))
def g140L1 : ACode := .loop [0, 4, 5, 6] g140B1
theorem g140L1_eq {AP : Nat → Option AFunc} {st : St} : cl AP g140L1 st = after (cl AP g140L1) (cl AP g140B1 (norm (restrict [0, 4, 5, 6] st))) := cl_loop
def g140B0 : ACode :=
  (.block 1
   (.seq
    (.reg [⟨some 14, none, [.t 0], .v (.mv)⟩,
      ⟨some 15, none, [.t 14], .callI 126 []⟩,
      ⟨some 16, none, [.t 0], .v (.mv)⟩,
      ⟨some 17, none, [.t 16, .c (.pv (.int .i64 2))], .callI 128 []⟩,
      ⟨some 18, none, [.t 15, .t 17], .v (.build [.int .i64 0, .str [], .lst [], .int .i64 0, .int .i64 0, .str [], .int .i64 0, .lst [], .lst [], .int .i64 0, .str [], .int .i64 0, .int .i64 0, .lst []] [(0, 1), (1, 1)])⟩,
      ⟨some 6, none, [], .alloc 6 [.int .i64 0, .str [], .lst [], .int .i64 0, .int .i64 0, .str [], .int .i64 0, .lst [], .lst [], .int .i64 0, .str [], .int .i64 0, .int .i64 0, .lst []]⟩,
      ⟨none, none, [.t 6, .t 18], .storeL 6 0 14⟩] [0, 4, 5, 6])
    (.seq
     (.block 2
      g140L1)
     (.seq
      (.reg [⟨some 28, none, [.t 0], .v (.mv)⟩,
        ⟨some 29, none, [.t 28, .c (.pv (.str [46]))], .callI 127 []⟩] [0, 4, 5, 6])
      (.seq
       (.seq
        (.reg [⟨some 30, none, [.t 0], .v (.mv)⟩,
          ⟨some 31, none, [.t 30], .v (.nilchk)⟩,
          ⟨some 32, none, [.t 31], .v (.faddr 2)⟩,
          ⟨some 33, none, [.t 32], .loadS 1 false⟩] [0, 4, 5, 6, 33])
        (.cond (.t 33)
         (.seq
          (.reg [⟨some 34, none, [], .v (.build [.int .i64 0, .int .i64 0, .str [], .int .i64 0, .lst [], .lst [], .int .i64 0, .str [], .int .i64 0, .int .i64 0, .lst []] [])⟩,
            ⟨none, none, [.t 4, .t 34], .storeL 4 0 11⟩] [4])
          .ret)
         .skip))
       (.seq
        (.reg [⟨some 35, none, [.t 0], .v (.mv)⟩,
          ⟨some 36, none, [.t 35], .callI 134 []⟩,
          ⟨some 37, none, [.t 6], .v (.faddr 3)⟩,
          ⟨none, none, [.t 37, .t 36], .storeL 6 3 11⟩] [0, 4, 5, 6])
        (.seq
         (.reg [⟨some 38, none, [.t 5], .v (.faddr 5)⟩,
           ⟨some 39, none, [.t 38], .loadL 5 5 1 false⟩,
           ⟨some 40, none, [.t 6], .loadL 6 0 14 true⟩,
           ⟨some 41, none, [.t 40], .v (.bslice 14)⟩,
           ⟨some 42, none, [.t 39, .t 41], .append 14 200⟩,
           ⟨some 43, none, [.t 5], .v (.faddr 5)⟩,
           ⟨none, none, [.t 43, .t 42], .storeL 5 5 1⟩] [0, 4, 5])
         (.seq
          (.reg [⟨some 44, none, [.t 0], .v (.mv)⟩,
            ⟨some 45, none, [.t 44, .c (.pv (.str [124]))], .callI 132 []⟩,
            ⟨some 46, none, [.t 45], .v (.un .not)⟩] [0, 4, 5, 46])
          (.cond (.t 46)
           (.exit 0)
           .skip)))))))))
def g140L0 : ACode := .loop [0, 4, 5] g140B0
theorem g140L0_eq {AP : Nat → Option AFunc} {st : St} : cl AP g140L0 st = after (cl AP g140L0) (cl AP g140B0 (norm (restrict [0, 4, 5] st))) := cl_loop
def g140 : AFunc := ⟨2, 50, [.c 4 11 true],
  (.seq
   (.reg [⟨some 4, none, [], .alloc 4 [.int .i64 0, .int .i64 0, .str [], .int .i64 0, .lst [], .lst [], .int .i64 0, .str [], .int .i64 0, .int .i64 0, .lst []]⟩] [0, 1, 4])
   (.seq
    (.reg [⟨some 7, none, [.t 1], .v (.mv)⟩,
      ⟨some 8, none, [.t 0], .v (.mv)⟩,
      ⟨some 9, none, [.t 8], .callI 134 []⟩,
      ⟨some 10, none, [.t 9], .v (.bslice 11)⟩,
      ⟨some 11, none, [.c (.pv (.int .i64 8)), .t 7, .t 10], .v (.build [.int .i64 0, .int .i64 0, .str [], .int .i64 0, .lst [], .lst [], .int .i64 0, .str [], .int .i64 0, .int .i64 0, .lst []] [(0, 1), (1, 1), (4, 1)])⟩,
      ⟨some 5, none, [], .alloc 5 [.int .i64 0, .int .i64 0, .str [], .int .i64 0, .lst [], .lst [], .int .i64 0, .str [], .int .i64 0, .int .i64 0, .lst []]⟩,
      ⟨none, none, [.t 5, .t 11], .storeL 5 0 11⟩] [0, 4, 5])
    (.seq
     (.reg [⟨some 12, none, [.t 0], .v (.mv)⟩,
       ⟨some 13, none, [.t 12, .c (.pv (.str [111, 102]))], .callI 127 []⟩] [0, 4, 5])
     (.seq
      (.block 0
       g140L0)
      (.seq
       (.reg [⟨some 47, none, [.t 0], .v (.mv)⟩,
         ⟨some 48, none, [.t 47, .c (.pv (.str [101, 110, 100]))], .callI 127 []⟩] [4, 5])
       (.seq
        (.reg [⟨some 49, none, [.t 5], .loadL 5 0 11 true⟩,
          ⟨none, none, [.t 4, .t 49], .storeL 4 0 11⟩] [4])
        .ret))))))⟩

/- typedholes/typedholesref6.atom -/
def g141 : AFunc := ⟨1, 68, [.c 2 11 true],
  (.seq
   (.reg [⟨some 2, none, [], .alloc 2 [.int .i64 0, .int .i64 0, .str [], .int .i64 0, .lst [], .lst [], .int .i64 0, .str [], .int .i64 0, .int .i64 0, .lst []]⟩] [0, 2])
   (.seq
    (.reg [⟨some 7, none, [.t 0], .v (.mv)⟩,
      ⟨some 8, none, [.t 7], .callI 126 []⟩,
      ⟨some 3, none, [.t 8], .v (.mv)⟩] [0, 2, 3])
    (.seq
     (.block 0
      (.seq
       (.reg [⟨some 10, none, [.t 0], .v (.mv)⟩,
         ⟨some 11, none, [.t 10, .c (.pv (.int .i64 1))], .callI 129 []⟩,
         ⟨some 9, none, [.t 11], .v (.mv)⟩] [0, 2, 3, 9])
       (.cond (.t 9)
        (.seq
         (.reg [⟨some 12, none, [.t 3], .v (.mv)⟩,
           ⟨some 13, none, [.t 0], .v (.mv)⟩,
           ⟨some 14, none, [.t 13, .c (.pv (.int .i64 1))], .callI 128 []⟩,
           ⟨some 15, none, [.c (.pv (.int .i64 1)), .t 12, .t 14], .v (.build [.int .i64 0, .int .i64 0, .str [], .int .i64 0, .lst [], .lst [], .int .i64 0, .str [], .int .i64 0, .int .i64 0, .lst []] [(0, 1), (1, 1), (2, 1)])⟩,
           ⟨none, none, [.t 2, .t 15], .storeL 2 0 11⟩] [2])
         .ret)
        (.seq
         (.reg [⟨some 17, none, [.t 0], .v (.mv)⟩,
           ⟨some 18, none, [.t 17, .c (.pv (.int .i64 2))], .callI 129 []⟩,
           ⟨some 16, none, [.t 18], .v (.mv)⟩] [0, 2, 3, 16])
         (.cond (.t 16)
          (.seq
           (.reg [⟨some 19, none, [.t 3], .v (.mv)⟩,
             ⟨some 20, none, [.t 0], .v (.mv)⟩,
             ⟨some 21, none, [.t 20, .c (.pv (.int .i64 2))], .callI 128 []⟩,
             ⟨some 22, none, [.c (.pv (.int .i64 2)), .t 19, .t 21], .v (.build [.int .i64 0, .int .i64 0, .str [], .int .i64 0, .lst [], .lst [], .int .i64 0, .str [], .int .i64 0, .int .i64 0, .lst []] [(0, 1), (1, 1), (2, 1)])⟩,
             ⟨none, none, [.t 2, .t 22], .storeL 2 0 11⟩] [2])
           .ret)
          (.seq
           (.reg [⟨some 24, none, [.t 0], .v (.mv)⟩,
             ⟨some 25, none, [.t 24, .c (.pv (.int .i64 3))], .callI 129 []⟩,
             ⟨some 23, none, [.t 25], .v (.mv)⟩] [0, 2, 3, 23])
           (.cond (.t 23)
            (.seq
             (.reg [⟨some 26, none, [.t 3], .v (.mv)⟩,
               ⟨some 27, none, [.t 0], .v (.mv)⟩,
               ⟨some 28, none, [.t 27, .c (.pv (.int .i64 3))], .callI 128 []⟩,
               ⟨some 29, none, [.t 28], .callP 146⟩,
               ⟨some 30, none, [.c (.pv (.int .i64 3)), .t 26, .t 29], .v (.build [.int .i64 0, .int .i64 0, .str [], .int .i64 0, .lst [], .lst [], .int .i64 0, .str [], .int .i64 0, .int .i64 0, .lst []] [(0, 1), (1, 1), (3, 1)])⟩,
               ⟨none, none, [.t 2, .t 30], .storeL 2 0 11⟩] [2])
             .ret)
            (.seq
             (.reg [⟨some 32, none, [.t 0], .v (.mv)⟩,
               ⟨some 33, none, [.t 32, .c (.pv (.str [63]))], .callI 132 []⟩,
               ⟨some 31, none, [.t 33], .v (.mv)⟩] [0, 2, 3, 31])
             (.cond (.t 31)
              (.seq
               (.reg [⟨some 34, none, [.t 3], .v (.mv)⟩,
                 ⟨some 35, none, [.c (.pv (.int .i64 10)), .t 34], .v (.build [.int .i64 0, .int .i64 0, .str [], .int .i64 0, .lst [], .lst [], .int .i64 0, .str [], .int .i64 0, .int .i64 0, .lst []] [(0, 1), (1, 1)])⟩,
                 ⟨none, none, [.t 2, .t 35], .storeL 2 0 11⟩] [2])
               .ret)
              (.seq
               (.reg [⟨some 37, none, [.t 0], .v (.mv)⟩,
                 ⟨some 38, none, [.t 37, .c (.pv (.str [123]))], .callI 132 []⟩,
                 ⟨some 36, none, [.t 38], .v (.mv)⟩] [0, 2, 3, 36])
               (.cond (.t 36)
                (.seq
                 (.reg [⟨some 39, none, [.t 0], .v (.mv)⟩,
                   ⟨some 40, none, [.t 39], .callI 134 []⟩,
                   ⟨some 4, none, [], .alloc 4 [.int .i64 0, .int .i64 0, .str [], .int .i64 0, .lst [], .lst [], .int .i64 0, .str [], .int .i64 0, .int .i64 0, .lst []]⟩,
                   ⟨none, none, [.t 4, .t 40], .storeL 4 0 11⟩] [0, 2, 3, 4])
                 (.seq
                  (.reg [⟨some 41, none, [.t 0], .v (.mv)⟩,
                    ⟨some 42, none, [.t 41, .c (.pv (.str [125]))], .callI 127 []⟩] [2, 3, 4])
                  (.seq
                   (.reg [⟨some 43, none, [.t 3], .v (.mv)⟩,
                     ⟨some 44, none, [.t 4], .loadL 4 0 11 true⟩,
                     ⟨some 45, none, [.t 44], .v (.bslice 11)⟩,
                     ⟨some 46, none, [.c (.pv (.int .i64 11)), .t 43, .t 45], .v (.build [.int .i64 0, .int .i64 0, .str [], .int .i64 0, .lst [], .lst [], .int .i64 0, .str [], .int .i64 0, .int .i64 0, .lst []] [(0, 1), (1, 1), (4, 1)])⟩,
                     ⟨none, none, [.t 2, .t 46], .storeL 2 0 11⟩] [2])
                   .ret)))
                .skip)))))))))))
     (.seq
      (.reg [⟨some 47, none, [.t 0], .v (.mv)⟩,
        ⟨some 48, none, [.t 47, .c (.pv (.str [40]))], .callI 127 []⟩] [0, 2, 3])
      (.seq
       (.seq
        (.reg [⟨some 49, none, [.t 0], .v (.mv)⟩,
          ⟨some 50, none, [.t 49], .v (.nilchk)⟩,
          ⟨some 51, none, [.t 50], .v (.faddr 2)⟩,
          ⟨some 52, none, [.t 51], .loadS 1 false⟩] [0, 2, 3, 52])
        (.cond (.t 52)
         (.seq
          (.reg [⟨some 53, none, [], .v (.build [.int .i64 0, .int .i64 0, .str [], .int .i64 0, .lst [], .lst [], .int .i64 0, .str [], .int .i64 0, .int .i64 0, .lst []] [])⟩,
            ⟨none, none, [.t 2, .t 53], .storeL 2 0 11⟩] [2])
          .ret)
         .skip))
       (.seq
        (.reg [⟨some 54, none, [.t 0], .v (.mv)⟩,
          ⟨some 55, none, [.t 54], .callI 134 []⟩,
          ⟨some 5, none, [], .alloc 5 [.int .i64 0, .int .i64 0, .str [], .int .i64 0, .lst [], .lst [], .int .i64 0, .str [], .int .i64 0, .int .i64 0, .lst []]⟩,
          ⟨none, none, [.t 5, .t 55], .storeL 5 0 11⟩] [0, 2, 3, 5])
        (.seq
         (.seq
          (.reg [⟨some 56, none, [.t 0], .v (.mv)⟩,
            ⟨some 57, none, [.t 56, .c (.pv (.str [58]))], .callI 132 []⟩] [0, 2, 3, 5, 57])
          (.cond (.t 57)
           (.seq
            (.reg [⟨some 58, none, [.t 0], .v (.mv)⟩,
              ⟨some 59, none, [.t 58], .callI 133 []⟩,
              ⟨some 6, none, [], .alloc 6 [.int .i64 0, .str [], .int .i64 0, .int .i64 0, .lst []]⟩,
              ⟨none, none, [.t 6, .t 59], .storeL 6 0 5⟩] [0, 2, 3, 5, 6])
            (.reg [⟨some 60, none, [.t 3], .v (.mv)⟩,
              ⟨some 61, none, [.t 5], .loadL 5 0 11 true⟩,
              ⟨some 62, none, [.t 61], .v (.bslice 11)⟩,
              ⟨some 63, none, [.t 6], .loadL 6 0 5 true⟩,
              ⟨some 64, none, [.c (.pv (.int .i64 9)), .t 60, .t 62, .t 63], .v (.build [.int .i64 0, .int .i64 0, .str [], .int .i64 0, .lst [], .lst [], .int .i64 0, .str [], .int .i64 0, .int .i64 0, .lst []] [(0, 1), (1, 1), (4, 1), (6, 5)])⟩,
              ⟨none, none, [.t 5, .t 64], .storeL 5 0 11⟩] [0, 2, 5]))
           .skip))
         (.seq
          (.reg [⟨some 65, none, [.t 0], .v (.mv)⟩,
            ⟨some 66, none, [.t 65, .c (.pv (.str [41]))], .callI 127 []⟩] [2, 5])
          (.seq
           (.reg [⟨some 67, none, [.t 5], .loadL 5 0 11 true⟩,
             ⟨none, none, [.t 2, .t 67], .storeL 2 0 11⟩] [2])
           .ret)))))))))⟩

/- typedholes/typedholesref6.Starts -/
def g142 : AFunc := ⟨1, 24, [.t 2],
  (.seq
   (.reg [⟨some 1, none, [.t 0], .box 1 3⟩,
     ⟨some 2, none, [.c (.pv (.bool false))], .v (.mv)⟩] [1])
   (.seq
    (.seq
     (.reg [⟨some 3, none, [.t 1], .v (.faddr 0)⟩,
       ⟨some 4, none, [.t 3], .loadL 1 0 1 false⟩] [1, 4])
     (.block 0
      (.seq
       (.seq
        (.reg [⟨some 6, none, [.t 4, .c (.pv (.int .i64 1))], .v (.bin .eql)⟩,
          ⟨some 5, none, [.t 6], .v (.mv)⟩] [1, 4, 5])
        (.cond (.t 5)
         .skip
         (.seq
          (.reg [⟨some 7, none, [.t 4, .c (.pv (.int .i64 2))], .v (.bin .eql)⟩,
            ⟨some 5, none, [.t 7], .v (.mv)⟩] [1, 4, 5])
          (.cond (.t 5)
           .skip
           (.reg [⟨some 8, none, [.t 4, .c (.pv (.int .i64 3))], .v (.bin .eql)⟩,
             ⟨some 5, none, [.t 8], .v (.mv)⟩] [1, 4, 5])))))
       (.cond (.t 5)
        (.seq
         (.reg [⟨some 2, none, [.c (.pv (.bool true))], .v (.mv)⟩] [2])
         .ret)
        (.seq
         (.reg [⟨some 10, none, [.t 4, .c (.pv (.int .i64 5))], .v (.bin .eql)⟩,
           ⟨some 9, none, [.t 10], .v (.mv)⟩] [1, 9])
         (.cond (.t 9)
          (.seq
           (.reg [⟨some 11, none, [.t 1], .v (.faddr 1)⟩,
             ⟨some 12, none, [.t 11], .loadL 1 1 1 false⟩,
             ⟨some 13, none, [.t 12, .c (.pv (.str [63]))], .v (.bin .eql)⟩,
             ⟨some 14, none, [.t 13], .v (.mv)⟩,
             ⟨some 15, some (14, false), [.t 1], .v (.faddr 1)⟩,
             ⟨some 16, some (14, false), [.t 15], .loadL 1 1 1 false⟩,
             ⟨some 17, some (14, false), [.t 16, .c (.pv (.str [40]))], .v (.bin .eql)⟩,
             ⟨some 18, none, [.t 14, .c (.pv (.bool true)), .t 17], .v (.pick)⟩,
             ⟨some 19, none, [.t 18], .v (.mv)⟩,
             ⟨some 20, some (19, false), [.t 1], .v (.faddr 1)⟩,
             ⟨some 21, some (19, false), [.t 20], .loadL 1 1 1 false⟩,
             ⟨some 22, some (19, false), [.t 21, .c (.pv (.str [123]))], .v (.bin .eql)⟩,
             ⟨some 23, none, [.t 19, .c (.pv (.bool true)), .t 22], .v (.pick)⟩,
             ⟨some 2, none, [.t 23], .v (.mv)⟩] [2])
           .ret)
          .skip))))))
    (.seq
     (.reg [⟨some 2, none, [.c (.pv (.bool false))], .v (.mv)⟩] [2])
     .ret)))⟩

/- typedholes/typedholesref4.Depth -/
def g143B0 : ACode :=
  (.seq
   (.seq
    (.reg [⟨some 8, none, [.t 5], .v (.mv)⟩,
      ⟨some 9, none, [.t 4], .v (.mv)⟩,
      ⟨some 10, none, [.t 9], .v (.len)⟩,
      ⟨some 11, none, [.t 8, .t 10], .v (.bin .lss)⟩] [3, 4, 5, 11])
    (.cond (.t 11)
     .skip
     (.exit 0)))
   (.seq
    (.block 1
     (.reg [⟨some 14, none, [.t 3], .v (.mv)⟩,
       ⟨some 15, none, [.t 4], .v (.mv)⟩,
       ⟨some 16, none, [.t 5], .v (.mv)⟩,
       ⟨some 17, none, [.t 15, .t 16], .v (.iaddr 11)⟩,
       ⟨some 18, none, [.t 17], .v (.loadE 11 true)⟩,
       ⟨some 19, none, [.t 18], .callP 143⟩,
       ⟨some 20, none, [.c (.pv (.int .i64 1)), .t 19], .v (.bin .add)⟩,
       ⟨some 21, none, [.t 14, .t 20], .v (.mx)⟩,
       ⟨some 3, none, [.t 21], .v (.mv)⟩] [3, 4, 5]))
    (.reg [⟨some 12, none, [.t 5], .v (.mv)⟩,
      ⟨some 13, none, [.t 12, .c (.pv (.int .i64 1))], .v (.bin .add)⟩,
      ⟨some 5, none, [.t 13], .v (.mv)⟩] [3, 4, 5])))
def g143L0 : ACode := .loop [3, 4, 5] g143B0
theorem g143L0_eq {AP : Nat → Option AFunc} {st : St} : cl AP g143L0 st = after (cl AP g143L0) (cl AP g143B0 (norm (restrict [3, 4, 5] st))) := cl_loop
def g143 : AFunc := ⟨1, 23, [.t 2],
  (.seq
   (.reg [⟨some 1, none, [.t 0], .box 1 11⟩,
     ⟨some 2, none, [.c (.pv (.int .i64 0))], .v (.mv)⟩] [1])
   (.seq
    (.reg [⟨some 3, none, [.c (.pv (.int .i64 0))], .v (.mv)⟩] [1, 3])
    (.seq
     (.reg [⟨some 6, none, [.t 1], .loadL 1 0 11 true⟩,
       ⟨some 7, none, [.t 6], .callP 145⟩,
       ⟨some 4, none, [.t 7], .v (.mv)⟩] [3, 4])
     (.seq
      (.seq
       (.reg [⟨some 5, none, [.c (.pv (.int .i64 0))], .v (.mv)⟩] [3, 4, 5])
       (.block 0
        g143L0))
      (.seq
       (.reg [⟨some 22, none, [.t 3], .v (.mv)⟩,
         ⟨some 2, none, [.t 22], .v (.mv)⟩] [2])
       .ret)))))⟩

/- typedholes/typedholesref7.deepType -/
def g144B0 : ACode :=
  (.seq
   (.seq
    (.reg [⟨some 16, none, [.t 4], .v (.mv)⟩,
      ⟨some 17, none, [.t 3], .v (.mv)⟩,
      ⟨some 18, none, [.t 17], .v (.len)⟩,
      ⟨some 19, none, [.t 16, .t 18], .v (.bin .lss)⟩] [3, 4, 19])
    (.cond (.t 19)
     .skip
     (.exit 0)))
   (.seq
    (.block 1
     (.seq
      (.reg [⟨some 22, none, [.t 3], .v (.mv)⟩,
        ⟨some 23, none, [.t 4], .v (.mv)⟩,
        ⟨some 24, none, [.t 22, .t 23], .v (.iaddr 11)⟩,
        ⟨some 25, none, [.t 24], .v (.loadE 11 true)⟩,
        ⟨some 26, none, [.t 25], .callP 144⟩] [3, 4, 26])
      (.cond (.t 26)
       (.seq
        (.reg [⟨some 2, none, [.c (.pv (.bool true))], .v (.mv)⟩] [2])
        .ret)
       .skip)))
    (.reg [⟨some 20, none, [.t 4], .v (.mv)⟩,
      ⟨some 21, none, [.t 20, .c (.pv (.int .i64 1))], .v (.bin .add)⟩,
      ⟨some 4, none, [.t 21], .v (.mv)⟩] [3, 4])))
def g144L0 : ACode := .loop [3, 4] g144B0
theorem g144L0_eq {AP : Nat → Option AFunc} {st : St} : cl AP g144L0 st = after (cl AP g144L0) (cl AP g144B0 (norm (restrict [3, 4] st))) := cl_loop
def g144 : AFunc := ⟨1, 27, [.t 2],
  (.seq
   (.reg [⟨some 1, none, [.t 0], .box 1 11⟩,
     ⟨some 2, none, [.c (.pv (.bool false))], .v (.mv)⟩] [1])
   (.seq
    (.seq
     (.reg [⟨some 5, none, [.t 1], .v (.faddr 0)⟩,
       ⟨some 6, none, [.t 5], .loadL 1 0 1 false⟩,
       ⟨some 7, none, [.t 6, .c (.pv (.int .i64 9))], .v (.bin .eql)⟩,
       ⟨some 8, none, [.t 7], .v (.mv)⟩,
       ⟨some 9, some (8, true), [.t 1], .v (.faddr 6)⟩,
       ⟨some 10, some (8, true), [.t 9], .loadL 1 6 5 true⟩,
       ⟨some 11, some (8, true), [.t 10], .callP 52⟩,
       ⟨some 12, some (8, true), [.t 11, .c (.pv (.int .i64 40))], .v (.bin .gtr)⟩,
       ⟨some 13, none, [.t 8, .t 12, .c (.pv (.bool false))], .v (.pick)⟩] [1, 13])
     (.cond (.t 13)
      (.seq
       (.reg [⟨some 2, none, [.c (.pv (.bool true))], .v (.mv)⟩] [2])
       .ret)
      .skip))
    (.seq
     (.reg [⟨some 14, none, [.t 1], .loadL 1 0 11 true⟩,
       ⟨some 15, none, [.t 14], .callP 145⟩,
       ⟨some 3, none, [.t 15], .v (.mv)⟩] [3])
     (.seq
      (.seq
       (.reg [⟨some 4, none, [.c (.pv (.int .i64 0))], .v (.mv)⟩] [3, 4])
       (.block 0
        g144L0))
      (.seq
       (.reg [⟨some 2, none, [.c (.pv (.bool false))], .v (.mv)⟩] [2])
       .ret)))))⟩

/- typedholes/typedholesref4.Children -/
def g145B0 : ACode :=
  (.seq
   (.seq
    (.reg [⟨some 8, none, [.t 4], .v (.mv)⟩,
      ⟨some 9, none, [.t 1], .v (.faddr 5)⟩,
      ⟨some 10, none, [.t 9], .loadL 1 5 1 false⟩,
      ⟨some 11, none, [.t 10], .v (.len)⟩,
      ⟨some 12, none, [.t 8, .t 11], .v (.bin .lss)⟩] [1, 3, 4, 12])
    (.cond (.t 12)
     .skip
     (.exit 0)))
   (.seq
    (.block 1
     (.reg [⟨some 15, none, [.t 3], .v (.mv)⟩,
       ⟨some 16, none, [.t 1], .v (.faddr 5)⟩,
       ⟨some 17, none, [.t 16], .loadL 1 5 1 false⟩,
       ⟨some 18, none, [.t 4], .v (.mv)⟩,
       ⟨some 19, none, [.t 17, .t 18], .v (.iaddr 14)⟩,
       ⟨some 20, none, [.t 19], .v (.faddr 3)⟩,
       ⟨some 21, none, [.t 20], .v (.loadE 11 true)⟩,
       ⟨some 22, none, [.t 21], .v (.bslice 11)⟩,
       ⟨some 23, none, [.t 15, .t 22], .append 11 152⟩,
       ⟨some 3, none, [.t 23], .v (.mv)⟩] [1, 3, 4]))
    (.reg [⟨some 13, none, [.t 4], .v (.mv)⟩,
      ⟨some 14, none, [.t 13, .c (.pv (.int .i64 1))], .v (.bin .add)⟩,
      ⟨some 4, none, [.t 14], .v (.mv)⟩] [1, 3, 4])))
def g145L0 : ACode := .loop [1, 3, 4] g145B0
theorem g145L0_eq {AP : Nat → Option AFunc} {st : St} : cl AP g145L0 st = after (cl AP g145L0) (cl AP g145B0 (norm (restrict [1, 3, 4] st))) := cl_loop
def g145 : AFunc := ⟨1, 25, [.t 2],
  (.seq
   (.reg [⟨some 1, none, [.t 0], .box 1 11⟩,
     ⟨some 2, none, [.c (.clp [])], .v (.mv)⟩] [1])
   (.seq
    (.reg [⟨some 5, none, [.t 1], .v (.faddr 4)⟩,
      ⟨some 6, none, [.t 5], .loadL 1 4 1 false⟩,
      ⟨some 7, none, [.c (.clp []), .t 6], .append 11 152⟩,
      ⟨some 3, none, [.t 7], .v (.mv)⟩] [1, 3])
    (.seq
     (.seq
      (.reg [⟨some 4, none, [.c (.pv (.int .i64 0))], .v (.mv)⟩] [1, 3, 4])
      (.block 0
       g145L0))
     (.seq
      (.reg [⟨some 24, none, [.t 3], .v (.mv)⟩,
        ⟨some 2, none, [.t 24], .v (.mv)⟩] [2])
      .ret))))⟩

/- typedholes/typedholesref6.number -/
def g146B0 : ACode :=
  (.seq
   (.seq
    (.reg [⟨some 5, none, [.t 4], .v (.mv)⟩,
      ⟨some 6, none, [.t 0], .v (.mv)⟩,
      ⟨some 7, none, [.t 6], .v (.lenS)⟩,
      ⟨some 8, none, [.t 5, .t 7], .v (.bin .lss)⟩] [0, 3, 4, 8])
    (.cond (.t 8)
     .skip
     (.exit 0)))
   (.seq
    (.block 1
     (.reg [⟨some 11, none, [.t 3], .v (.mv)⟩,
       ⟨some 12, none, [.c (.pv (.int .i64 10)), .t 11], .v (.bin .mul)⟩,
       ⟨some 13, none, [.t 0], .v (.mv)⟩,
       ⟨some 14, none, [.t 4], .v (.mv)⟩,
       ⟨some 15, none, [.t 13, .t 14], .v (.index)⟩,
       ⟨some 16, none, [.t 15, .c (.pv (.int .u8 48))], .v (.bin .sub)⟩,
       ⟨some 17, none, [.t 16], .v (.conv .i64)⟩,
       ⟨some 18, none, [.t 12, .t 17], .v (.bin .add)⟩,
       ⟨some 3, none, [.t 18], .v (.mv)⟩] [0, 3, 4]))
    (.reg [⟨some 9, none, [.t 4], .v (.mv)⟩,
      ⟨some 10, none, [.t 9, .c (.pv (.int .i64 1))], .v (.bin .add)⟩,
      ⟨some 4, none, [.t 10], .v (.mv)⟩] [0, 3, 4])))
def g146L0 : ACode := .loop [0, 3, 4] g146B0
theorem g146L0_eq {AP : Nat → Option AFunc} {st : St} : cl AP g146L0 st = after (cl AP g146L0) (cl AP g146B0 (norm (restrict [0, 3, 4] st))) := cl_loop
def g146 : AFunc := ⟨1, 20, [.t 2],
  (.seq
   (.reg [⟨some 2, none, [.c (.pv (.int .i64 0))], .v (.mv)⟩] [0])
   (.seq
    (.reg [⟨some 3, none, [.c (.pv (.int .i64 0))], .v (.mv)⟩] [0, 3])
    (.seq
     (.seq
      (.reg [⟨some 4, none, [.c (.pv (.int .i64 0))], .v (.mv)⟩] [0, 3, 4])
      (.block 0
       g146L0))
     (.seq
      (.reg [⟨some 19, none, [.t 3], .v (.mv)⟩,
        ⟨some 2, none, [.t 19], .v (.mv)⟩] [2])
      .ret))))⟩

/-- All functions. -/
def AP (g : Nat) : Option AFunc := match g with
  | 4 => some g4
  | 5 => some g5
  | 6 => some g6
  | 7 => some g7
  | 8 => some g8
  | 9 => some g9
  | 10 => some g10
  | 11 => some g11
  | 13 => some g13
  | 14 => some g14
  | 15 => some g15
  | 16 => some g16
  | 17 => some g17
  | 18 => some g18
  | 19 => some g19
  | 20 => some g20
  | 21 => some g21
  | 22 => some g22
  | 23 => some g23
  | 24 => some g24
  | 25 => some g25
  | 26 => some g26
  | 27 => some g27
  | 28 => some g28
  | 29 => some g29
  | 30 => some g30
  | 31 => some g31
  | 32 => some g32
  | 33 => some g33
  | 34 => some g34
  | 35 => some g35
  | 36 => some g36
  | 37 => some g37
  | 38 => some g38
  | 39 => some g39
  | 40 => some g40
  | 41 => some g41
  | 42 => some g42
  | 43 => some g43
  | 44 => some g44
  | 45 => some g45
  | 46 => some g46
  | 47 => some g47
  | 48 => some g48
  | 49 => some g49
  | 50 => some g50
  | 51 => some g51
  | 52 => some g52
  | 53 => some g53
  | 54 => some g54
  | 55 => some g55
  | 56 => some g56
  | 57 => some g57
  | 59 => some g59
  | 60 => some g60
  | 61 => some g61
  | 62 => some g62
  | 63 => some g63
  | 64 => some g64
  | 65 => some g65
  | 66 => some g66
  | 67 => some g67
  | 68 => some g68
  | 69 => some g69
  | 70 => some g70
  | 71 => some g71
  | 72 => some g72
  | 73 => some g73
  | 74 => some g74
  | 75 => some g75
  | 76 => some g76
  | 77 => some g77
  | 78 => some g78
  | 79 => some g79
  | 80 => some g80
  | 81 => some g81
  | 82 => some g82
  | 83 => some g83
  | 84 => some g84
  | 85 => some g85
  | 86 => some g86
  | 87 => some g87
  | 88 => some g88
  | 89 => some g89
  | 90 => some g90
  | 91 => some g91
  | 92 => some g92
  | 93 => some g93
  | 94 => some g94
  | 95 => some g95
  | 96 => some g96
  | 97 => some g97
  | 98 => some g98
  | 99 => some g99
  | 101 => some g101
  | 102 => some g102
  | 103 => some g103
  | 104 => some g104
  | 105 => some g105
  | 106 => some g106
  | 107 => some g107
  | 108 => some g108
  | 109 => some g109
  | 110 => some g110
  | 111 => some g111
  | 112 => some g112
  | 113 => some g113
  | 114 => some g114
  | 115 => some g115
  | 116 => some g116
  | 117 => some g117
  | 118 => some g118
  | 119 => some g119
  | 120 => some g120
  | 121 => some g121
  | 122 => some g122
  | 123 => some g123
  | 124 => some g124
  | 125 => some g125
  | 126 => some g126
  | 127 => some g127
  | 128 => some g128
  | 129 => some g129
  | 130 => some g130
  | 131 => some g131
  | 132 => some g132
  | 133 => some g133
  | 134 => some g134
  | 135 => some g135
  | 136 => some g136
  | 137 => some g137
  | 138 => some g138
  | 139 => some g139
  | 140 => some g140
  | 141 => some g141
  | 142 => some g142
  | 143 => some g143
  | 144 => some g144
  | 145 => some g145
  | 146 => some g146
  | _ => none

end Go.Ab
