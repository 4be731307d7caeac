import Derived.Test.YtehgffojgiefaaaVmWq
set_option autoImplicit false
set_option maxRecDepth 100000
set_option linter.unusedVariables false
namespace Go.Vm
def GB.eqS (f e : Nat) : AC :=
       (.seq
        (.seq
         (.reg [.mv 11 (.t 5),
           .mv 12 (.t 0),
           .len 13 (.t 12),
           .bin 14 .lss (.t 11) (.t 13)])
        (.cond (.t 14)
         .skip
         (.exit 0)))
       (.seq
        (.block 1
         (.seq
          (.dreg [⟨0, []⟩, ⟨0, []⟩, ⟨0, [(0, 0), (0, 1), (0, 2), (0, 3)]⟩, ⟨0, [(0, 0), (0, 1), (0, 2), (0, 3)]⟩, ⟨0, []⟩, ⟨0, []⟩, ⟨0, [(1, 0), (1, 1), (1, 2), (1, 3)]⟩, ⟨0, [(1, 0), (1, 1), (1, 2), (1, 3)]⟩, ⟨2, [(0, 0), (0, 1), (0, 2), (0, 3), (1, 0), (1, 1), (1, 2), (1, 3), (20, 0), (24, 0)]⟩, ⟨0, []⟩]
           [.mv 17 (.t 0),
            .mv 18 (.t 5),
            .ia 19 e (.t 17) (.t 18),
            .ldq 20 true e (.t 19),
            .mv 21 (.t 1),
            .mv 22 (.t 5),
            .ia 23 e (.t 21) (.t 22),
            .ldq 24 true e (.t 23),
            .call (some 25) (.c (Fc f)) [(.t 20), (.t 24)] (.ro true),
            .un 26 .not (.t 25)])
         (.cond (.t 26)
          (.seq
           (.reg [.mv 4 (.c (B false))])
          .ret)
          .skip)))
       (.reg [.mv 15 (.t 5),
         .bin 16 .add (.t 15) (.c (I 1)),
         .mv 5 (.t 16)])))
def GL.eqS (f e : Nat) : Lp := ⟨[0, 1, 5], [], GB.eqS f e⟩
@[go_sem] theorem GL.eqS_ls {f e : Nat} : (GL.eqS f e).ls = [0, 1, 5] := rfl
@[go_sem] theorem GL.eqS_ks {f e : Nat} : (GL.eqS f e).ks = [] := rfl
@[go_sem] theorem GL.eqS_b {f e : Nat} : (GL.eqS f e).body = GB.eqS f e := rfl
def GA.eqS (f e : Nat) : AF where
  nargs := 2
  ntmps := 27
  res := [.tmp 4]
  body :=
    (.seq
     (.reg [.mv 4 (.c (B false))])
    (.seq
     (.seq
      (.reg [.mv 6 (.t 0),
        .len 7 (.t 6),
        .mv 8 (.t 1),
        .len 9 (.t 8),
        .bin 10 .neq (.t 7) (.t 9)])
     (.cond (.t 10)
      (.seq
       (.reg [.mv 4 (.c (B false))])
      .ret)
      .skip))
    (.seq
     (.seq
      (.reg [.mv 5 (.c (I 0))])
     (.block 0
      (lpC (GL.eqS f e))))
    (.seq
     (.reg [.mv 4 (.c (B true))])
    .ret))))
def GB.szS (f e : Nat) : AC :=
       (.seq
        (.seq
         (.reg [.mv 12 (.t 5),
           .mv 13 (.t 0),
           .len 14 (.t 13),
           .bin 15 .lss (.t 12) (.t 14)])
        (.cond (.t 15)
         .skip
         (.exit 0)))
       (.seq
        (.block 1
         (.seq
          (.reg [.mv 18 (.t 0),
            .mv 19 (.t 5),
            .ia 20 e (.t 18) (.t 19),
            .ld 21 true e (.t 20),
            .mv 22 (.t 1),
            .call (some 23) (.c (Fc f)) [(.t 21), (.t 22)] (.ro true),
            .mv 1 (.t 23)])
         (.seq
          (.reg [.mv 24 (.t 1),
            .bin 25 .lss (.t 24) (.c (I 0))])
         (.cond (.t 25)
          (.seq
           (.reg [.mv 4 (.c (I (-1)))])
          .ret)
          .skip))))
       (.reg [.mv 16 (.t 5),
         .bin 17 .add (.t 16) (.c (I 1)),
         .mv 5 (.t 17)])))
def GL.szS (f e : Nat) : Lp := ⟨[0, 1, 5], [], GB.szS f e⟩
@[go_sem] theorem GL.szS_ls {f e : Nat} : (GL.szS f e).ls = [0, 1, 5] := rfl
@[go_sem] theorem GL.szS_ks {f e : Nat} : (GL.szS f e).ks = [] := rfl
@[go_sem] theorem GL.szS_b {f e : Nat} : (GL.szS f e).body = GB.szS f e := rfl
def GA.szS (f e : Nat) : AF where
  nargs := 2
  ntmps := 27
  res := [.tmp 4]
  body :=
    (.seq
     (.reg [.mv 4 (.c (I 0))])
    (.seq
     (.reg [.mv 6 (.t 1),
       .mv 7 (.t 0),
       .len 8 (.t 7),
       .bin 9 .sub (.t 6) (.t 8),
       .mv 1 (.t 9)])
    (.seq
     (.seq
      (.reg [.mv 10 (.t 1),
        .bin 11 .lss (.t 10) (.c (I 0))])
     (.cond (.t 11)
      (.seq
       (.reg [.mv 4 (.c (I (-1)))])
      .ret)
      .skip))
    (.seq
     (.seq
      (.reg [.mv 5 (.c (I 0))])
     (.block 0
      (lpC (GL.szS f e))))
    (.seq
     (.reg [.mv 26 (.t 1),
       .mv 4 (.t 26)])
    .ret)))))
def GB.toS (f e b : Nat) (z : V) : AC :=
       (.seq
        (.seq
         (.reg [.mv 8 (.t 4),
           .mv 9 (.t 0),
           .len 10 (.t 9),
           .bin 11 .lss (.t 8) (.t 10)])
        (.cond (.t 11)
         .skip
         (.exit 0)))
       (.seq
        (.block 1
         (.reg [.mv 14 (.t 3),
           .mv 15 (.t 4),
           .mv 16 (.t 0),
           .mv 17 (.t 4),
           .ia 18 e (.t 16) (.t 17),
           .ld 19 true e (.t 18),
           .call (some 20) (.c (Fc f)) [(.t 19)] (.ro false),
           .ia 21 e (.t 14) (.t 15),
           .st e (.t 21) (.t 20)]))
       (.reg [.mv 12 (.t 4),
         .bin 13 .add (.t 12) (.c (I 1)),
         .mv 4 (.t 13)])))
def GL.toS (f e b : Nat) (z : V) : Lp := ⟨[0, 3, 4], [], GB.toS f e b z⟩
@[go_sem] theorem GL.toS_ls {f e b : Nat} {z : V} : (GL.toS f e b z).ls = [0, 3, 4] := rfl
@[go_sem] theorem GL.toS_ks {f e b : Nat} {z : V} : (GL.toS f e b z).ks = [] := rfl
@[go_sem] theorem GL.toS_b {f e b : Nat} {z : V} : (GL.toS f e b z).body = GB.toS f e b z := rfl
def GA.toS (f e b : Nat) (z : V) : AF where
  nargs := 1
  ntmps := 23
  res := [.tmp 2]
  body :=
    (.seq
     (.reg [.mv 2 (.c (.n e))])
    (.seq
     (.reg [.mv 5 (.t 0),
       .len 6 (.t 5),
       .mk 7 e z b (.t 6) (.t 6),
       .mv 3 (.t 7)])
    (.seq
     (.seq
      (.reg [.mv 4 (.c (I 0))])
     (.block 0
      (lpC (GL.toS f e b z))))
    (.seq
     (.reg [.mv 22 (.t 3),
       .mv 2 (.t 22)])
    .ret))))
end Go.Vm
