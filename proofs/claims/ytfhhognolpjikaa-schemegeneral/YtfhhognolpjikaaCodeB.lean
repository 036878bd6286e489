import Derived.Test.YtfhhognolpjikaaAbEv
import Derived.Test.YtfhhognolpjikaaCodeA
/-
  The program's functions in slim code, as a program of ours printed them; what they have to do with the given program is proved in the text Impl.
-/
namespace Go.Ab

/- typedholes/scheme.Close -/
def g437B0 : ACode :=
  (.seq
   (.reg [⟨some 13, none, [.t 12, .t 11], .v (.bin .lss)⟩] [1, 2, 4, 5, 10, 11, 12, 13])
   (.seq
    (.cond (.t 13)
     .skip
     (.exit 0))
    (.seq
     (.block 1
      (.seq
       (.reg [⟨some 14, none, [.t 10, .t 12], .v (.iaddr 1)⟩,
         ⟨some 15, none, [.t 14], .v (.loadE 1 false)⟩,
         ⟨some 7, none, [.t 15], .v (.mv)⟩] [1, 2, 4, 5, 7, 10, 11, 12])
       (.seq
        (.reg [⟨some 16, none, [.t 1], .v (.mv)⟩,
          ⟨some 17, none, [.t 7], .v (.mv)⟩,
          ⟨some 18, none, [.t 16, .t 17], .callP 98⟩] [1, 2, 4, 5, 7, 10, 11, 12, 18])
        (.cond (.t 18)
         (.reg [⟨some 19, none, [.t 5], .v (.mv)⟩,
           ⟨some 20, none, [.t 7], .v (.mv)⟩,
           ⟨some 21, none, [.t 5], .v (.mv)⟩,
           ⟨some 22, none, [.t 21], .v (.len)⟩,
           ⟨some 23, none, [.c (.pv (.int .i64 2)), .t 22], .v (.build [.int .i64 0, .str [], .int .i64 0, .int .i64 0, .lst []] [(0, 1), (2, 1)])⟩,
           ⟨some 24, none, [.t 20, .t 23], .v (.build [.int .i64 0, .int .i64 0, .str [], .int .i64 0, .int .i64 0, .lst []] [(0, 1), (1, 5)])⟩,
           ⟨some 25, none, [.t 24], .v (.bslice 6)⟩,
           ⟨some 26, none, [.t 19, .t 25], .append 6 72⟩,
           ⟨some 5, none, [.t 26], .v (.mv)⟩] [1, 2, 4, 5, 10, 11, 12])
         .skip))))
     (.reg [⟨some 27, none, [.t 12, .c (.pv (.int .i64 1))], .v (.bin .add)⟩,
       ⟨some 12, none, [.t 27], .v (.mv)⟩] [1, 2, 4, 5, 10, 11, 12]))))
def g437L0 : ACode := .loop [1, 2, 4, 5, 10, 11, 12] g437B0
theorem g437L0_eq {AP : Nat → Option AFunc} {st : St} : cl AP g437L0 st = after (cl AP g437L0) (cl AP g437B0 (norm (restrict [1, 2, 4, 5, 10, 11, 12] st))) := cl_loop
def g437 : AFunc := ⟨2, 34, [.c 4 6 true],
  (.seq
   (.reg [⟨some 2, none, [.t 0], .box 2 5⟩,
     ⟨some 4, none, [], .alloc 4 [.int .i64 0, .int .i64 0, .str [], .int .i64 0, .int .i64 0, .lst []]⟩] [1, 2, 4])
   (.seq
    (.reg [⟨some 5, none, [.c (.clp [])], .v (.mv)⟩] [1, 2, 4, 5])
    (.seq
     (.seq
      (.reg [⟨some 8, none, [.t 2], .loadL 2 0 5 true⟩,
        ⟨some 9, none, [.t 8], .v (.bslice 5)⟩,
        ⟨some 10, none, [.t 9], .callP 55⟩,
        ⟨some 11, none, [.t 10], .v (.len)⟩,
        ⟨some 12, none, [.c (.pv (.int .i64 0))], .v (.mv)⟩] [1, 2, 4, 5, 10, 11, 12])
      (.block 0
       g437L0))
     (.seq
      (.reg [⟨some 28, none, [.t 5], .v (.mv)⟩,
        ⟨some 29, none, [.t 28], .v (.len)⟩,
        ⟨some 30, none, [.t 2], .loadL 2 0 5 true⟩,
        ⟨some 31, none, [.t 5], .v (.mv)⟩,
        ⟨some 32, none, [.t 30, .t 31], .callP 45⟩,
        ⟨some 33, none, [.t 29, .t 32], .v (.build [.int .i64 0, .int .i64 0, .str [], .int .i64 0, .int .i64 0, .lst []] [(0, 1), (1, 5)])⟩,
        ⟨none, none, [.t 4, .t 33], .storeL 4 0 6⟩] [4])
      .ret)))), none, false⟩

/- typedholes/scheme.bounds -/
def g441B1 : ACode :=
  (.seq
   (.reg [⟨some 37, none, [.t 36, .t 35], .v (.bin .lss)⟩] [4, 21, 22, 23, 34, 35, 36, 37])
   (.seq
    (.cond (.t 37)
     .skip
     (.exit 3))
    (.seq
     (.block 4
      (.seq
       (.reg [⟨some 38, none, [.t 34, .t 36], .v (.iaddr 1)⟩,
         ⟨some 39, none, [.t 38], .v (.loadE 1 false)⟩,
         ⟨some 10, none, [.t 39], .v (.mv)⟩] [4, 10, 21, 22, 23, 34, 35, 36])
       (.seq
        (.reg [⟨some 40, none, [.t 4], .v (.mv)⟩,
          ⟨some 41, none, [.t 10], .v (.mv)⟩,
          ⟨some 42, none, [.t 40, .t 41], .callP 98⟩,
          ⟨some 43, none, [.t 42], .v (.un .not)⟩] [4, 10, 21, 22, 23, 34, 35, 36, 43])
        (.cond (.t 43)
         (.reg [⟨some 44, none, [.t 4], .v (.mv)⟩,
           ⟨some 45, none, [.t 10], .v (.mv)⟩,
           ⟨some 46, none, [.t 45], .v (.bslice 1)⟩,
           ⟨some 47, none, [.t 44, .t 46], .append 1 8⟩,
           ⟨some 4, none, [.t 47], .v (.mv)⟩] [4, 21, 22, 23, 34, 35, 36])
         .skip))))
     (.reg [⟨some 48, none, [.t 36, .c (.pv (.int .i64 1))], .v (.bin .add)⟩,
       ⟨some 36, none, [.t 48], .v (.mv)⟩] [4, 21, 22, 23, 34, 35, 36]))))
def g441L1 : ACode := .loop [4, 21, 22, 23, 34, 35, 36] g441B1
theorem g441L1_eq {AP : Nat → Option AFunc} {st : St} : cl AP g441L1 st = after (cl AP g441L1) (cl AP g441B1 (norm (restrict [4, 21, 22, 23, 34, 35, 36] st))) := cl_loop
def g441B0 : ACode :=
  (.seq
   (.reg [⟨some 24, none, [.t 23, .t 22], .v (.bin .lss)⟩] [4, 21, 22, 23, 24])
   (.seq
    (.cond (.t 24)
     .skip
     (.exit 1))
    (.seq
     (.block 2
      (.seq
       (.reg [⟨some 25, none, [.t 21, .t 23], .v (.iaddr 5)⟩,
         ⟨some 26, none, [.t 25], .v (.loadE 5 true)⟩,
         ⟨some 6, none, [], .alloc 6 [.int .i64 0, .str [], .int .i64 0, .int .i64 0, .lst []]⟩,
         ⟨none, none, [.t 6, .t 26], .storeL 6 0 5⟩] [4, 6, 21, 22, 23])
       (.seq
        (.reg [⟨some 28, none, [.t 6], .loadL 6 0 5 true⟩,
          ⟨some 29, none, [.t 28], .callP 441⟩,
          ⟨some 27, none, [.t 29], .v (.mv)⟩,
          ⟨some 30, none, [.t 27], .v (.ext 0)⟩,
          ⟨some 31, none, [.t 27], .v (.ext 1)⟩,
          ⟨some 7, none, [.t 30], .v (.mv)⟩,
          ⟨some 8, none, [.t 31], .v (.mv)⟩] [4, 7, 8, 21, 22, 23])
        (.seq
         (.seq
          (.reg [⟨some 32, none, [.t 8], .v (.mv)⟩,
            ⟨some 33, none, [.t 32], .v (.un .not)⟩] [4, 7, 21, 22, 23, 33])
          (.cond (.t 33)
           (.seq
            (.reg [⟨some 2, none, [.c (.clp [])], .v (.mv)⟩,
              ⟨some 3, none, [.c (.pv (.bool false))], .v (.mv)⟩] [2, 3])
            .ret)
           .skip))
         (.seq
          (.reg [⟨some 34, none, [.t 7], .v (.mv)⟩,
            ⟨some 35, none, [.t 34], .v (.len)⟩,
            ⟨some 36, none, [.c (.pv (.int .i64 0))], .v (.mv)⟩] [4, 21, 22, 23, 34, 35, 36])
          (.block 3
           g441L1))))))
     (.reg [⟨some 49, none, [.t 23, .c (.pv (.int .i64 1))], .v (.bin .add)⟩,
       ⟨some 23, none, [.t 49], .v (.mv)⟩] [4, 21, 22, 23]))))
def g441L0 : ACode := .loop [4, 21, 22, 23] g441B0
theorem g441L0_eq {AP : Nat → Option AFunc} {st : St} : cl AP g441L0 st = after (cl AP g441L0) (cl AP g441B0 (norm (restrict [4, 21, 22, 23] st))) := cl_loop
def g441 : AFunc := ⟨1, 51, [.t 2, .t 3],
  (.seq
   (.reg [⟨some 1, none, [.t 0], .box 1 5⟩,
     ⟨some 2, none, [.c (.clp [])], .v (.mv)⟩,
     ⟨some 3, none, [.c (.pv (.bool false))], .v (.mv)⟩] [1])
   (.seq
    (.seq
     (.reg [⟨some 11, none, [.t 1], .v (.faddr 0)⟩,
       ⟨some 12, none, [.t 11], .loadL 1 0 1 false⟩] [1, 12])
     (.block 0
      (.seq
       (.reg [⟨some 14, none, [.t 12, .c (.pv (.int .i64 2))], .v (.bin .eql)⟩,
         ⟨some 13, none, [.t 14], .v (.mv)⟩] [1, 12, 13])
       (.cond (.t 13)
        (.seq
         (.reg [⟨some 15, none, [.t 1], .v (.faddr 2)⟩,
           ⟨some 16, none, [.t 15], .loadL 1 2 1 false⟩,
           ⟨some 17, none, [.t 16], .v (.bslice 1)⟩,
           ⟨some 2, none, [.t 17], .v (.mv)⟩,
           ⟨some 3, none, [.c (.pv (.bool true))], .v (.mv)⟩] [2, 3])
         .ret)
        (.seq
         (.reg [⟨some 19, none, [.t 12, .c (.pv (.int .i64 5))], .v (.bin .eql)⟩,
           ⟨some 18, none, [.t 19], .v (.mv)⟩] [1, 18])
         (.cond (.t 18)
          (.seq
           (.reg [⟨some 2, none, [.c (.clp [])], .v (.mv)⟩,
             ⟨some 3, none, [.c (.pv (.bool false))], .v (.mv)⟩] [2, 3])
           .ret)
          .skip))))))
    (.seq
     (.reg [⟨some 4, none, [.c (.clp [])], .v (.mv)⟩] [1, 4])
     (.seq
      (.seq
       (.reg [⟨some 20, none, [.t 1], .v (.faddr 4)⟩,
         ⟨some 21, none, [.t 20], .loadL 1 4 1 false⟩,
         ⟨some 22, none, [.t 21], .v (.len)⟩,
         ⟨some 23, none, [.c (.pv (.int .i64 0))], .v (.mv)⟩] [4, 21, 22, 23])
       (.block 1
        g441L0))
      (.seq
       (.reg [⟨some 50, none, [.t 4], .v (.mv)⟩,
         ⟨some 2, none, [.t 50], .v (.mv)⟩,
         ⟨some 3, none, [.c (.pv (.bool true))], .v (.mv)⟩] [2, 3])
       .ret))))), none, false⟩

/-- All functions. -/
def AP (g : Nat) : Option AFunc := match g with
  | 15 => some g15
  | 20 => some g20
  | 26 => some g26
  | 27 => some g27
  | 29 => some g29
  | 32 => some g32
  | 33 => some g33
  | 34 => some g34
  | 35 => some g35
  | 37 => some g37
  | 45 => some g45
  | 46 => some g46
  | 48 => some g48
  | 49 => some g49
  | 52 => some g52
  | 55 => some g55
  | 56 => some g56
  | 57 => some g57
  | 62 => some g62
  | 63 => some g63
  | 68 => some g68
  | 69 => some g69
  | 70 => some g70
  | 71 => some g71
  | 72 => some g72
  | 73 => some g73
  | 74 => some g74
  | 75 => some g75
  | 76 => some g76
  | 77 => some g77
  | 78 => some g78
  | 79 => some g79
  | 80 => some g80
  | 81 => some g81
  | 82 => some g82
  | 83 => some g83
  | 91 => some g91
  | 92 => some g92
  | 95 => some g95
  | 96 => some g96
  | 97 => some g97
  | 98 => some g98
  | 99 => some g99
  | 106 => some g106
  | 107 => some g107
  | 108 => some g108
  | 109 => some g109
  | 110 => some g110
  | 111 => some g111
  | 112 => some g112
  | 113 => some g113
  | 114 => some g114
  | 116 => some g116
  | 117 => some g117
  | 118 => some g118
  | 119 => some g119
  | 120 => some g120
  | 121 => some g121
  | 122 => some g122
  | 123 => some g123
  | 124 => some g124
  | 125 => some g125
  | 126 => some g126
  | 127 => some g127
  | 128 => some g128
  | 129 => some g129
  | 130 => some g130
  | 131 => some g131
  | 132 => some g132
  | 133 => some g133
  | 134 => some g134
  | 135 => some g135
  | 136 => some g136
  | 137 => some g137
  | 138 => some g138
  | 139 => some g139
  | 140 => some g140
  | 141 => some g141
  | 142 => some g142
  | 143 => some g143
  | 144 => some g144
  | 145 => some g145
  | 146 => some g146
  | 208 => some g208
  | 229 => some g229
  | 230 => some g230
  | 232 => some g232
  | 237 => some g237
  | 238 => some g238
  | 239 => some g239
  | 240 => some g240
  | 428 => some g428
  | 433 => some g433
  | 434 => some g434
  | 435 => some g435
  | 437 => some g437
  | 441 => some g441
  | _ => none

end Go.Ab
