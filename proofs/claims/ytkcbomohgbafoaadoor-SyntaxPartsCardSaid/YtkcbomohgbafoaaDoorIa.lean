/- Part of the text. -/
import Derived.Test.YtkcbomohgbafoaaDoorEa
namespace Go.Proofs.YtkcbomohgbafoaaDoor
open Go
/-- switchback/switchbacklaw04.SyntaxParts -/
def F3 : IFunc := { nargs := 1, results := [.reg 2], body :=
  (.seq (.region 0 [1] [⟨(some 1), .box (.reg 0), none⟩,
    ⟨(some 2), .mv (.cst (.data (.bool false))), none⟩])
  (.seq (.seq (.region 1 [1, 11] [⟨(some 10), .call 8 [], none⟩,
    ⟨(some 11), .un .not (.reg 10), none⟩])
  (.cond (.reg 11)
    (.seq (.region 2 [2] [⟨(some 2), .mv (.cst (.data (.bool false))), none⟩])
    .ret)
    .skip))
  (.seq (.region 3 [1, 3, 4] [⟨(some 13), .load (some 7) (.reg 1), none⟩,
    ⟨(some 14), .call 9 [(.reg 13)], none⟩,
    ⟨(some 12), .mv (.reg 14), none⟩,
    ⟨(some 15), .extract 0 (.reg 12), none⟩,
    ⟨(some 16), .extract 1 (.reg 12), none⟩,
    ⟨(some 3), .mv (.reg 15), none⟩,
    ⟨(some 4), .mv (.reg 16), none⟩])
  (.seq (.seq (.region 4 [1, 3, 19] [⟨(some 17), .mv (.reg 4), none⟩,
    ⟨(some 18), .call 10 [(.reg 17)], none⟩,
    ⟨(some 19), .bin .neq (.reg 18) (.cst (.data (.int .i64 0))), none⟩])
  (.cond (.reg 19)
    (.seq (.region 5 [2] [⟨(some 20), .mv (.reg 3), none⟩,
      ⟨(some 21), .bin .eql (.reg 20) (.cst (.data (.str []))), none⟩,
      ⟨(some 2), .mv (.reg 21), none⟩])
    .ret)
    .skip))
  (.seq (.seq (.region 6 [1, 3, 5] [⟨(some 5), .mv (.cst (.data (.int .i64 0))), none⟩])
  (.block 0 (.loop (.seq (.seq (.region 7 [1, 3, 5, 26] [⟨(some 22), .mv (.reg 5), none⟩,
    ⟨(some 23), .faddr 6 (.reg 1), none⟩,
    ⟨(some 24), .load none (.reg 23), none⟩,
    ⟨(some 25), .len false (.reg 24), none⟩,
    ⟨(some 26), .bin .lss (.reg 22) (.reg 25), none⟩])
  (.cond (.reg 26)
    .skip
    (.exit 0)))
  (.seq (.block 1 (.seq (.region 9 [1, 3, 5, 6, 7] [⟨(some 30), .faddr 6 (.reg 1), none⟩,
    ⟨(some 31), .load none (.reg 30), none⟩,
    ⟨(some 32), .mv (.reg 5), none⟩,
    ⟨(some 33), .iaddr 7 (.reg 31) (.reg 32), none⟩,
    ⟨(some 34), .load (some 7) (.reg 33), none⟩,
    ⟨(some 35), .call 9 [(.reg 34)], none⟩,
    ⟨(some 29), .mv (.reg 35), none⟩,
    ⟨(some 36), .extract 0 (.reg 29), none⟩,
    ⟨(some 37), .extract 1 (.reg 29), none⟩,
    ⟨(some 6), .mv (.reg 36), none⟩,
    ⟨(some 7), .mv (.reg 37), none⟩])
  (.seq (.seq (.region 10 [1, 3, 5, 6, 47] [⟨(some 38), .mv (.reg 7), none⟩,
    ⟨(some 39), .call 10 [(.reg 38)], none⟩,
    ⟨(some 40), .bin .neq (.reg 39) (.cst (.data (.int .i64 0))), none⟩,
    ⟨(some 41), .mv (.reg 40), none⟩,
    ⟨(some 42), .mv (.reg 6), (some (41, false))⟩,
    ⟨(some 43), .len true (.reg 42), (some (41, false))⟩,
    ⟨(some 44), .mv (.reg 3), (some (41, false))⟩,
    ⟨(some 45), .len true (.reg 44), (some (41, false))⟩,
    ⟨(some 46), .bin .geq (.reg 43) (.reg 45), (some (41, false))⟩,
    ⟨(some 47), .pick (.reg 41) (.cst (.data (.bool true))) (.reg 46), none⟩])
  (.cond (.reg 47)
    (.seq (.region 11 [2] [⟨(some 2), .mv (.cst (.data (.bool false))), none⟩])
    .ret)
    .skip))
  (.seq (.region 12 [1, 3, 5, 6, 8] [⟨(some 8), .mv (.cst (.data (.bool false))), none⟩])
  (.seq (.seq (.region 13 [1, 3, 5, 6, 8, 9] [⟨(some 9), .mv (.cst (.data (.int .i64 0))), none⟩])
  (.block 2 (.loop (.seq (.seq (.region 14 [1, 3, 5, 6, 8, 9, 54] [⟨(some 48), .mv (.reg 9), none⟩,
    ⟨(some 49), .mv (.reg 6), none⟩,
    ⟨(some 50), .len true (.reg 49), none⟩,
    ⟨(some 51), .bin .add (.reg 48) (.reg 50), none⟩,
    ⟨(some 52), .mv (.reg 3), none⟩,
    ⟨(some 53), .len true (.reg 52), none⟩,
    ⟨(some 54), .bin .leq (.reg 51) (.reg 53), none⟩])
  (.cond (.reg 54)
    .skip
    (.exit 2)))
  (.seq (.block 3 (.region 16 [1, 3, 5, 6, 8, 9] [⟨(some 57), .mv (.reg 8), none⟩,
    ⟨(some 58), .mv (.reg 57), none⟩,
    ⟨(some 59), .mv (.reg 3), (some (58, false))⟩,
    ⟨(some 60), .mv (.reg 9), (some (58, false))⟩,
    ⟨(some 61), .mv (.reg 9), (some (58, false))⟩,
    ⟨(some 62), .mv (.reg 6), (some (58, false))⟩,
    ⟨(some 63), .len true (.reg 62), (some (58, false))⟩,
    ⟨(some 64), .bin .add (.reg 61) (.reg 63), (some (58, false))⟩,
    ⟨(some 65), .sub true 0 (.reg 59) (some (.reg 60)) (some (.reg 64)) none, (some (58, false))⟩,
    ⟨(some 66), .mv (.reg 6), (some (58, false))⟩,
    ⟨(some 67), .bin .eql (.reg 65) (.reg 66), (some (58, false))⟩,
    ⟨(some 68), .pick (.reg 58) (.cst (.data (.bool true))) (.reg 67), none⟩,
    ⟨(some 8), .mv (.reg 68), none⟩]))
  (.region 15 [1, 3, 5, 6, 8, 9] [⟨(some 55), .mv (.reg 9), none⟩,
    ⟨(some 56), .bin .add (.reg 55) (.cst (.data (.int .i64 1))), none⟩,
    ⟨(some 9), .mv (.reg 56), none⟩]))))))
  (.seq (.region 17 [1, 3, 5, 70] [⟨(some 69), .mv (.reg 8), none⟩,
    ⟨(some 70), .un .not (.reg 69), none⟩])
  (.cond (.reg 70)
    (.seq (.region 18 [2] [⟨(some 2), .mv (.cst (.data (.bool false))), none⟩])
    .ret)
    .skip)))))))
  (.region 8 [1, 3, 5] [⟨(some 27), .mv (.reg 5), none⟩,
    ⟨(some 28), .bin .add (.reg 27) (.cst (.data (.int .i64 1))), none⟩,
    ⟨(some 5), .mv (.reg 28), none⟩]))))))
  (.seq (.region 19 [2] [⟨(some 2), .mv (.cst (.data (.bool true))), none⟩])
  .ret)))))) }
/-- switchback/switchbacklaw04.alive -/
def F8 : IFunc := { nargs := 0, results := [.reg 0], body :=
  (.seq (.region 0 [] [⟨(some 0), .mv (.cst (.data (.bool false))), none⟩])
  (.seq (.region 1 [1, 2] [⟨(some 4), .build [(.data (.int .i64 0)), (.data (.int .i64 0)), (.data (.int .i64 0)), (.data (.str [])), (.data (.str [])), (.data (.str [])), (.full [])] [(0, 1, (.cst (.data (.int .i64 1)))), (5, 1, (.cst (.data (.str [97]))))], none⟩,
    ⟨(some 5), .build [(.data (.int .i64 0)), (.data (.int .i64 0)), (.data (.str []))] [(0, 1, (.cst (.data (.int .i64 1)))), (1, 1, (.cst (.data (.int .i64 1))))], none⟩,
    ⟨(some 6), .build [(.data (.int .i64 0)), (.data (.int .i64 0)), (.data (.int .i64 0)), (.data (.str [])), (.data (.str [])), (.data (.str [])), (.full [])] [(1, 3, (.reg 5))], none⟩,
    ⟨(some 7), .slit 7 [(.reg 4), (.reg 6)], none⟩,
    ⟨(some 8), .build [(.data (.int .i64 0)), (.data (.int .i64 0)), (.data (.int .i64 0)), (.data (.str [])), (.data (.str [])), (.data (.str [])), (.full [])] [(0, 1, (.cst (.data (.int .i64 4)))), (6, 1, (.reg 7))], none⟩,
    ⟨(some 9), .call 9 [(.reg 8)], none⟩,
    ⟨(some 3), .mv (.reg 9), none⟩,
    ⟨(some 10), .extract 0 (.reg 3), none⟩,
    ⟨(some 11), .extract 1 (.reg 3), none⟩,
    ⟨(some 1), .mv (.reg 10), none⟩,
    ⟨(some 2), .mv (.reg 11), none⟩])
  (.seq (.region 2 [0] [⟨(some 12), .mv (.reg 2), none⟩,
    ⟨(some 13), .call 10 [(.reg 12)], none⟩,
    ⟨(some 14), .bin .eql (.reg 13) (.cst (.data (.int .i64 0))), none⟩,
    ⟨(some 15), .mv (.reg 14), none⟩,
    ⟨(some 16), .mv (.reg 1), (some (15, true))⟩,
    ⟨(some 17), .bin .eql (.reg 16) (.cst (.data (.str [40, 97, 32, 43, 32, 49, 41]))), (some (15, true))⟩,
    ⟨(some 18), .pick (.reg 15) (.reg 17) (.cst (.data (.bool false))), none⟩,
    ⟨(some 19), .mv (.reg 18), none⟩,
    ⟨(some 20), .build [(.data (.int .i64 0)), (.data (.str [])), (.full []), (.data (.str [])), (.data (.str [])), (.full []), (.full []), (.full []), (.data (.str [])), (.full []), (.full []), (.full []), (.full []), (.data (.int .i64 0))] [(0, 1, (.cst (.data (.int .i64 8))))], (some (19, true))⟩,
    ⟨(some 21), .call 20 [(.reg 20)], (some (19, true))⟩,
    ⟨(some 22), .bin .eql (.reg 21) (.cst (.data (.int .i64 0))), (some (19, true))⟩,
    ⟨(some 23), .pick (.reg 19) (.reg 22) (.cst (.data (.bool false))), none⟩,
    ⟨(some 0), .mv (.reg 23), none⟩])
  .ret))) }
/-- switchback/syntax.PrintExpr -/
def F9 : IFunc := { nargs := 1, results := [.reg 2, .reg 3], body :=
  (.seq (.region 0 [1] [⟨(some 1), .box (.reg 0), none⟩,
    ⟨(some 2), .mv (.cst (.data (.str []))), none⟩,
    ⟨(some 3), .mv (.cst (.data (.int .i64 0))), none⟩])
  (.seq (.seq (.region 1 [1, 4] [⟨(some 5), .load (some 7) (.reg 1), none⟩,
    ⟨(some 6), .call 21 [(.reg 5)], none⟩,
    ⟨(some 4), .mv (.reg 6), none⟩])
  (.seq (.region 2 [1, 4, 8] [⟨(some 7), .mv (.reg 4), none⟩,
    ⟨(some 8), .bin .neq (.reg 7) (.cst (.data (.int .i64 0))), none⟩])
  (.cond (.reg 8)
    (.seq (.region 3 [2, 3] [⟨(some 9), .mv (.reg 4), none⟩,
      ⟨(some 2), .mv (.cst (.data (.str []))), none⟩,
      ⟨(some 3), .mv (.reg 9), none⟩])
    .ret)
    .skip)))
  (.seq (.region 4 [2, 3] [⟨(some 10), .load (some 7) (.reg 1), none⟩,
    ⟨(some 11), .call 22 [(.reg 10)], none⟩,
    ⟨(some 2), .mv (.reg 11), none⟩,
    ⟨(some 3), .mv (.cst (.data (.int .i64 0))), none⟩])
  .ret))) }
/-- switchback/switchbacklaw04.num -/
def F10 : IFunc := { nargs := 1, results := [.reg 2], body :=
  (.seq (.region 0 [0] [⟨(some 2), .mv (.cst (.data (.int .i64 0))), none⟩])
  (.seq (.region 1 [2] [⟨(some 3), .mv (.reg 0), none⟩,
    ⟨(some 2), .mv (.reg 3), none⟩])
  .ret)) }
/-- switchback/syntax.Check -/
def F20 : IFunc := { nargs := 1, results := [.cell 2 none], body :=
  (.seq (.region 0 [1, 2, 17] [⟨(some 1), .box (.reg 0), none⟩,
    ⟨(some 2), .alloc [(.data (.int .i64 0))], none⟩])
  (.seq (.seq (.region 1 [1, 2, 12, 17] [⟨(some 5), .faddr 0 (.reg 1), none⟩,
    ⟨(some 6), .load none (.reg 5), none⟩,
    ⟨(some 7), .bin .lss (.reg 6) (.cst (.data (.int .i64 1))), none⟩,
    ⟨(some 8), .mv (.reg 7), none⟩,
    ⟨(some 9), .faddr 0 (.reg 1), (some (8, false))⟩,
    ⟨(some 10), .load none (.reg 9), (some (8, false))⟩,
    ⟨(some 11), .bin .gtr (.reg 10) (.cst (.data (.int .i64 10))), (some (8, false))⟩,
    ⟨(some 12), .pick (.reg 8) (.cst (.data (.bool true))) (.reg 11), none⟩])
  (.cond (.reg 12)
    (.seq (.region 2 [2] [⟨none, .store 1 (.reg 2) (.cst (.data (.int .i64 22))), none⟩])
    .ret)
    .skip))
  (.seq (.seq (.region 3 [1, 2, 15, 17] [⟨(some 13), .load (some 14) (.reg 1), none⟩,
    ⟨(some 14), .call 49 [(.reg 13)], none⟩,
    ⟨(some 15), .un .not (.reg 14), none⟩])
  (.cond (.reg 15)
    (.seq (.region 4 [2] [⟨none, .store 1 (.reg 2) (.cst (.data (.int .i64 9))), none⟩])
    .ret)
    .skip))
  (.seq (.seq (.region 5 [1, 2, 16, 17] [⟨(some 16), .mkFunc 50 [] [(.reg 1)], none⟩])
  (.block 0 (.rfn (.reg 16) [17] (.region 6 [1, 2, 3] [⟨(some 3), .alloc [(.data (.int .i64 0)), (.data (.int .i64 0)), (.data (.int .i64 0)), (.data (.str [])), (.data (.str [])), (.data (.str [])), (.full [])], none⟩,
    ⟨none, .store 7 (.reg 3) (.reg 17), none⟩])
  (.block 1 (.seq (.region 7 [1, 2, 4] [⟨(some 18), .load (some 7) (.reg 3), none⟩,
    ⟨(some 19), .call 21 [(.reg 18)], none⟩,
    ⟨(some 4), .mv (.reg 19), none⟩])
  (.seq (.region 8 [1, 2, 4, 21] [⟨(some 20), .mv (.reg 4), none⟩,
    ⟨(some 21), .bin .neq (.reg 20) (.cst (.data (.int .i64 0))), none⟩])
  (.cond (.reg 21)
    (.seq (.region 9 [2] [⟨(some 22), .mv (.reg 4), none⟩,
      ⟨none, .store 1 (.reg 2) (.reg 22), none⟩])
    .ret)
    .skip)))))))
  (.seq (.seq (.region 10 [2, 34] [⟨(some 23), .faddr 11 (.reg 1), none⟩,
    ⟨(some 24), .load none (.reg 23), none⟩,
    ⟨(some 25), .len false (.reg 24), none⟩,
    ⟨(some 26), .bin .gtr (.reg 25) (.cst (.data (.int .i64 0))), none⟩,
    ⟨(some 27), .mv (.reg 26), none⟩,
    ⟨(some 28), .faddr 11 (.reg 1), (some (27, true))⟩,
    ⟨(some 29), .load none (.reg 28), (some (27, true))⟩,
    ⟨(some 30), .iaddr 7 (.reg 29) (.cst (.data (.int .i64 0))), (some (27, true))⟩,
    ⟨(some 31), .faddr 0 (.reg 30), (some (27, true))⟩,
    ⟨(some 32), .load none (.reg 31), (some (27, true))⟩,
    ⟨(some 33), .bin .neq (.reg 32) (.cst (.data (.int .i64 1))), (some (27, true))⟩,
    ⟨(some 34), .pick (.reg 27) (.reg 33) (.cst (.data (.bool false))), none⟩])
  (.cond (.reg 34)
    (.seq (.region 11 [2] [⟨none, .store 1 (.reg 2) (.cst (.data (.int .i64 9))), none⟩])
    .ret)
    .skip))
  (.seq (.region 12 [2] [⟨none, .store 1 (.reg 2) (.cst (.data (.int .i64 0))), none⟩])
  .ret)))))) }
/-- switchback/syntax.CheckExpr -/
def F21 : IFunc := { nargs := 1, results := [.cell 2 none], body :=
  (.seq (.region 0 [1, 2] [⟨(some 1), .box (.reg 0), none⟩,
    ⟨(some 2), .alloc [(.data (.int .i64 0))], none⟩])
  (.seq (.region 1 [1, 2] [⟨(some 4), .mkFunc 52 [] [(.reg 2)], none⟩,
    ⟨none, .defer (.reg 4), none⟩])
  (.seq (.region 2 [1, 2, 3] [⟨(some 3), .alloc [(.data (.int .i64 0))], none⟩])
  (.seq (.region 3 [2] [⟨(some 5), .load (some 7) (.reg 1), none⟩,
    ⟨(some 6), .call 54 [(.reg 3), (.reg 5), (.cst (.data (.int .i64 1)))], none⟩])
  (.seq (.region 4 [2] [⟨none, .store 1 (.reg 2) (.cst (.data (.int .i64 0))), none⟩])
  .ret))))) }
/-- switchback/syntax.printed -/
def F22 : IFunc := { nargs := 1, results := [.reg 2], body :=
  (.seq (.region 0 [1] [⟨(some 1), .box (.reg 0), none⟩,
    ⟨(some 2), .mv (.cst (.data (.str []))), none⟩])
  (.seq (.region 1 [1, 3] [⟨(some 3), .mv (.cst (.full [])), none⟩])
  (.seq (.seq (.region 2 [1, 3, 8, 9, 10] [⟨(some 7), .faddr 6 (.reg 1), none⟩,
    ⟨(some 8), .load none (.reg 7), none⟩,
    ⟨(some 9), .len false (.reg 8), none⟩,
    ⟨(some 10), .mv (.cst (.data (.int .i64 0))), none⟩])
  (.block 0 (.loop (.seq (.region 3 [1, 3, 8, 9, 10, 11] [⟨(some 11), .bin .lss (.reg 10) (.reg 9), none⟩])
  (.seq (.cond (.reg 11)
    .skip
    (.exit 0))
  (.seq (.block 1 (.seq (.region 4 [1, 3, 5, 8, 9, 10] [⟨(some 12), .iaddr 7 (.reg 8) (.reg 10), none⟩,
    ⟨(some 13), .load (some 7) (.reg 12), none⟩,
    ⟨(some 5), .alloc [(.data (.int .i64 0)), (.data (.int .i64 0)), (.data (.int .i64 0)), (.data (.str [])), (.data (.str [])), (.data (.str [])), (.full [])], none⟩,
    ⟨none, .store 7 (.reg 5) (.reg 13), none⟩])
  (.region 5 [1, 3, 8, 9, 10] [⟨(some 14), .mv (.reg 3), none⟩,
    ⟨(some 15), .load (some 7) (.reg 5), none⟩,
    ⟨(some 16), .call 22 [(.reg 15)], none⟩,
    ⟨(some 17), .slit 1 [(.reg 16)], none⟩,
    ⟨(some 18), .append 9 1 16 (.reg 14) (.reg 17), none⟩,
    ⟨(some 3), .mv (.reg 18), none⟩])))
  (.region 6 [1, 3, 8, 9, 10] [⟨(some 19), .bin .add (.reg 10) (.cst (.data (.int .i64 1))), none⟩,
    ⟨(some 10), .mv (.reg 19), none⟩])))))))
  (.seq (.seq (.region 7 [1, 3, 21] [⟨(some 20), .faddr 0 (.reg 1), none⟩,
    ⟨(some 21), .load none (.reg 20), none⟩])
  (.block 2 (.seq (.region 8 [1, 3, 21, 22] [⟨(some 23), .bin .eql (.reg 21) (.cst (.data (.int .i64 0))), none⟩,
    ⟨(some 22), .mv (.reg 23), none⟩])
  (.cond (.reg 22)
    (.seq (.region 9 [2] [⟨(some 24), .faddr 1 (.reg 1), none⟩,
      ⟨(some 25), .load (some 3) (.reg 24), none⟩,
      ⟨(some 26), .call 55 [(.reg 25)], none⟩,
      ⟨(some 2), .mv (.reg 26), none⟩])
    .ret)
    (.seq (.region 10 [1, 3, 21, 27] [⟨(some 28), .bin .eql (.reg 21) (.cst (.data (.int .i64 1))), none⟩,
      ⟨(some 27), .mv (.reg 28), none⟩])
    (.cond (.reg 27)
      (.seq (.region 11 [2] [⟨(some 29), .faddr 4 (.reg 1), none⟩,
        ⟨(some 30), .load none (.reg 29), none⟩,
        ⟨(some 31), .bin .add (.reg 30) (.cst (.data (.str [46]))), none⟩,
        ⟨(some 32), .faddr 5 (.reg 1), none⟩,
        ⟨(some 33), .load none (.reg 32), none⟩,
        ⟨(some 34), .bin .add (.reg 31) (.reg 33), none⟩,
        ⟨(some 35), .call 56 [(.reg 34), (.cst (.data (.str [46])))], none⟩,
        ⟨(some 2), .mv (.reg 35), none⟩])
      .ret)
      (.seq (.region 12 [1, 3, 21, 36] [⟨(some 37), .bin .eql (.reg 21) (.cst (.data (.int .i64 2))), none⟩,
        ⟨(some 36), .mv (.reg 37), none⟩])
      (.cond (.reg 36)
        (.seq (.region 13 [2] [⟨(some 38), .mv (.reg 3), none⟩,
          ⟨(some 39), .iaddr 1 (.reg 38) (.cst (.data (.int .i64 0))), none⟩,
          ⟨(some 40), .load none (.reg 39), none⟩,
          ⟨(some 41), .bin .add (.cst (.data (.str [40, 45]))) (.reg 40), none⟩,
          ⟨(some 42), .bin .add (.reg 41) (.cst (.data (.str [41]))), none⟩,
          ⟨(some 2), .mv (.reg 42), none⟩])
        .ret)
        (.seq (.region 14 [1, 3, 21, 43] [⟨(some 44), .bin .eql (.reg 21) (.cst (.data (.int .i64 3))), none⟩,
          ⟨(some 43), .mv (.reg 44), none⟩])
        (.cond (.reg 43)
          (.seq (.region 15 [2] [⟨(some 45), .mv (.reg 3), none⟩,
            ⟨(some 46), .iaddr 1 (.reg 45) (.cst (.data (.int .i64 0))), none⟩,
            ⟨(some 47), .load none (.reg 46), none⟩,
            ⟨(some 48), .bin .add (.cst (.data (.str [40, 78, 79, 84, 32]))) (.reg 47), none⟩,
            ⟨(some 49), .bin .add (.reg 48) (.cst (.data (.str [41]))), none⟩,
            ⟨(some 2), .mv (.reg 49), none⟩])
          .ret)
          (.seq (.region 16 [1, 3, 21, 50] [⟨(some 51), .bin .eql (.reg 21) (.cst (.data (.int .i64 16))), none⟩,
            ⟨(some 50), .mv (.reg 51), none⟩])
          (.cond (.reg 50)
            (.seq (.region 17 [2] [⟨(some 52), .mv (.reg 3), none⟩,
              ⟨(some 53), .iaddr 1 (.reg 52) (.cst (.data (.int .i64 0))), none⟩,
              ⟨(some 54), .load none (.reg 53), none⟩,
              ⟨(some 55), .bin .add (.cst (.data (.str [40]))) (.reg 54), none⟩,
              ⟨(some 56), .bin .add (.reg 55) (.cst (.data (.str [32, 73, 83, 32, 78, 85, 76, 76, 41]))), none⟩,
              ⟨(some 2), .mv (.reg 56), none⟩])
            .ret)
            (.seq (.region 18 [1, 3, 21, 57] [⟨(some 58), .bin .eql (.reg 21) (.cst (.data (.int .i64 17))), none⟩,
              ⟨(some 57), .mv (.reg 58), none⟩])
            (.cond (.reg 57)
              (.seq (.region 19 [2] [⟨(some 59), .mv (.reg 3), none⟩,
                ⟨(some 60), .iaddr 1 (.reg 59) (.cst (.data (.int .i64 0))), none⟩,
                ⟨(some 61), .load none (.reg 60), none⟩,
                ⟨(some 62), .bin .add (.cst (.data (.str [40]))) (.reg 61), none⟩,
                ⟨(some 63), .bin .add (.reg 62) (.cst (.data (.str [32, 73, 83, 32, 78, 79, 84, 32, 78, 85, 76, 76, 41]))), none⟩,
                ⟨(some 2), .mv (.reg 63), none⟩])
              .ret)
              (.seq (.region 20 [1, 3, 21, 64] [⟨(some 65), .bin .eql (.reg 21) (.cst (.data (.int .i64 18))), none⟩,
                ⟨(some 64), .mv (.reg 65), none⟩])
              (.cond (.reg 64)
                (.seq (.region 21 [2] [⟨(some 2), .mv (.cst (.data (.str [67, 79, 85, 78, 84, 40, 42, 41]))), none⟩])
                .ret)
                (.seq (.seq (.region 22 [1, 3, 21, 66] [⟨(some 67), .bin .eql (.reg 21) (.cst (.data (.int .i64 19))), none⟩,
                  ⟨(some 66), .mv (.reg 67), none⟩])
                (.cond (.reg 66)
                  .skip
                  (.seq (.region 23 [1, 3, 21, 66] [⟨(some 68), .bin .eql (.reg 21) (.cst (.data (.int .i64 20))), none⟩,
                    ⟨(some 66), .mv (.reg 68), none⟩])
                  (.cond (.reg 66)
                    .skip
                    (.seq (.region 24 [1, 3, 21, 66] [⟨(some 69), .bin .eql (.reg 21) (.cst (.data (.int .i64 21))), none⟩,
                      ⟨(some 66), .mv (.reg 69), none⟩])
                    (.cond (.reg 66)
                      .skip
                      (.region 25 [1, 3, 66] [⟨(some 70), .bin .eql (.reg 21) (.cst (.data (.int .i64 22))), none⟩,
                        ⟨(some 66), .mv (.reg 70), none⟩])))))))
                (.cond (.reg 66)
                  (.seq (.dregion 26 [2] [⟨(some 71), .build [(.data (.str [])), (.data (.str [])), (.data (.str [])), (.data (.str []))] [(0, 1, (.cst (.data (.str [67, 79, 85, 78, 84])))), (1, 1, (.cst (.data (.str [83, 85, 77])))), (2, 1, (.cst (.data (.str [77, 73, 78])))), (3, 1, (.cst (.data (.str [77, 65, 88]))))], none⟩,
                    ⟨(some 72), .faddr 0 (.reg 1), none⟩,
                    ⟨(some 73), .load none (.reg 72), none⟩,
                    ⟨(some 74), .bin .sub (.reg 73) (.cst (.data (.int .i64 19))), none⟩,
                    ⟨(some 75), .idxA 4 1 none (.reg 71) (.reg 74), none⟩,
                    ⟨(some 76), .bin .add (.reg 75) (.cst (.data (.str [40]))), none⟩,
                    ⟨(some 77), .mv (.reg 3), none⟩,
                    ⟨(some 78), .iaddr 1 (.reg 77) (.cst (.data (.int .i64 0))), none⟩,
                    ⟨(some 79), .load none (.reg 78), none⟩,
                    ⟨(some 80), .bin .add (.reg 76) (.reg 79), none⟩,
                    ⟨(some 81), .bin .add (.reg 80) (.cst (.data (.str [41]))), none⟩,
                    ⟨(some 2), .mv (.reg 81), none⟩])
                  .ret)
                  .skip))))))))))))))))))
  (.seq (.region 27 [1, 3, 6] [⟨(some 82), .build [(.data (.str [])), (.data (.str [])), (.data (.str [])), (.data (.str [])), (.data (.str [])), (.data (.str [])), (.data (.str [])), (.data (.str [])), (.data (.str [])), (.data (.str [])), (.data (.str [])), (.data (.str []))] [(0, 1, (.cst (.data (.str [43])))), (1, 1, (.cst (.data (.str [45])))), (2, 1, (.cst (.data (.str [42])))), (3, 1, (.cst (.data (.str [47])))), (4, 1, (.cst (.data (.str [61])))), (5, 1, (.cst (.data (.str [60, 62])))), (6, 1, (.cst (.data (.str [60])))), (7, 1, (.cst (.data (.str [60, 61])))), (8, 1, (.cst (.data (.str [62])))), (9, 1, (.cst (.data (.str [62, 61])))), (10, 1, (.cst (.data (.str [65, 78, 68])))), (11, 1, (.cst (.data (.str [79, 82]))))], none⟩,
    ⟨(some 6), .alloc [(.data (.str [])), (.data (.str [])), (.data (.str [])), (.data (.str [])), (.data (.str [])), (.data (.str [])), (.data (.str [])), (.data (.str [])), (.data (.str [])), (.data (.str [])), (.data (.str [])), (.data (.str []))], none⟩,
    ⟨none, .store 12 (.reg 6) (.reg 82), none⟩])
  (.seq (.dregion 28 [2] [⟨(some 83), .mv (.reg 3), none⟩,
    ⟨(some 84), .iaddr 1 (.reg 83) (.cst (.data (.int .i64 0))), none⟩,
    ⟨(some 85), .load none (.reg 84), none⟩,
    ⟨(some 86), .bin .add (.cst (.data (.str [40]))) (.reg 85), none⟩,
    ⟨(some 87), .bin .add (.reg 86) (.cst (.data (.str [32]))), none⟩,
    ⟨(some 88), .faddr 0 (.reg 1), none⟩,
    ⟨(some 89), .load none (.reg 88), none⟩,
    ⟨(some 90), .bin .sub (.reg 89) (.cst (.data (.int .i64 4))), none⟩,
    ⟨(some 91), .aaddr 12 1 (.reg 6) (.reg 90), none⟩,
    ⟨(some 92), .load none (.reg 91), none⟩,
    ⟨(some 93), .bin .add (.reg 87) (.reg 92), none⟩,
    ⟨(some 94), .bin .add (.reg 93) (.cst (.data (.str [32]))), none⟩,
    ⟨(some 95), .mv (.reg 3), none⟩,
    ⟨(some 96), .iaddr 1 (.reg 95) (.cst (.data (.int .i64 1))), none⟩,
    ⟨(some 97), .load none (.reg 96), none⟩,
    ⟨(some 98), .bin .add (.reg 94) (.reg 97), none⟩,
    ⟨(some 99), .bin .add (.reg 98) (.cst (.data (.str [41]))), none⟩,
    ⟨(some 2), .mv (.reg 99), none⟩])
  .ret)))))) }
/-- switchback/syntax.shape -/
def F49 : IFunc := { nargs := 1, results := [.reg 2], body :=
  (.seq (.region 0 [1] [⟨(some 1), .box (.reg 0), none⟩,
    ⟨(some 2), .mv (.cst (.data (.bool false))), none⟩])
  (.seq (.region 1 [1, 3] [⟨(some 6), .faddr 0 (.reg 1), none⟩,
    ⟨(some 7), .load none (.reg 6), none⟩,
    ⟨(some 3), .mv (.reg 7), none⟩])
  (.seq (.region 2 [1, 3, 4] [⟨(some 8), .mv (.reg 3), none⟩,
    ⟨(some 9), .bin .eql (.reg 8) (.cst (.data (.int .i64 5))), none⟩,
    ⟨(some 10), .mv (.reg 9), none⟩,
    ⟨(some 11), .mv (.reg 3), (some (10, false))⟩,
    ⟨(some 12), .bin .eql (.reg 11) (.cst (.data (.int .i64 6))), (some (10, false))⟩,
    ⟨(some 13), .pick (.reg 10) (.cst (.data (.bool true))) (.reg 12), none⟩,
    ⟨(some 14), .mv (.reg 13), none⟩,
    ⟨(some 15), .mv (.reg 3), (some (14, false))⟩,
    ⟨(some 16), .bin .eql (.reg 15) (.cst (.data (.int .i64 7))), (some (14, false))⟩,
    ⟨(some 17), .pick (.reg 14) (.cst (.data (.bool true))) (.reg 16), none⟩,
    ⟨(some 4), .mv (.reg 17), none⟩])
  (.seq (.region 3 [1, 3, 4, 5] [⟨(some 18), .faddr 1 (.reg 1), none⟩,
    ⟨(some 19), .load none (.reg 18), none⟩,
    ⟨(some 20), .mv (.reg 3), none⟩,
    ⟨(some 21), .bin .leq (.reg 20) (.cst (.data (.int .i64 7))), none⟩,
    ⟨(some 22), .call 82 [(.reg 19), (.reg 21)], none⟩,
    ⟨(some 23), .mv (.reg 22), none⟩,
    ⟨(some 24), .faddr 3 (.reg 1), (some (23, true))⟩,
    ⟨(some 25), .load none (.reg 24), (some (23, true))⟩,
    ⟨(some 26), .mv (.reg 3), (some (23, true))⟩,
    ⟨(some 27), .bin .eql (.reg 26) (.cst (.data (.int .i64 1))), (some (23, true))⟩,
    ⟨(some 28), .mv (.reg 27), (some (23, true))⟩,
    ⟨(some 29), .mv (.reg 3), (some (28, false))⟩,
    ⟨(some 30), .bin .eql (.reg 29) (.cst (.data (.int .i64 2))), (some (28, false))⟩,
    ⟨(some 31), .pick (.reg 28) (.cst (.data (.bool true))) (.reg 30), (some (23, true))⟩,
    ⟨(some 32), .call 82 [(.reg 25), (.reg 31)], (some (23, true))⟩,
    ⟨(some 33), .pick (.reg 23) (.reg 32) (.cst (.data (.bool false))), none⟩,
    ⟨(some 34), .mv (.reg 33), none⟩,
    ⟨(some 35), .faddr 4 (.reg 1), (some (34, true))⟩,
    ⟨(some 36), .load none (.reg 35), (some (34, true))⟩,
    ⟨(some 37), .mv (.reg 3), (some (34, true))⟩,
    ⟨(some 38), .bin .eql (.reg 37) (.cst (.data (.int .i64 2))), (some (34, true))⟩,
    ⟨(some 39), .call 82 [(.reg 36), (.reg 38)], (some (34, true))⟩,
    ⟨(some 40), .pick (.reg 34) (.reg 39) (.cst (.data (.bool false))), none⟩,
    ⟨(some 41), .mv (.reg 40), none⟩,
    ⟨(some 42), .faddr 8 (.reg 1), (some (41, true))⟩,
    ⟨(some 43), .load none (.reg 42), (some (41, true))⟩,
    ⟨(some 44), .bin .eql (.reg 43) (.cst (.data (.str []))), (some (41, true))⟩,
    ⟨(some 45), .mv (.reg 44), (some (41, true))⟩,
    ⟨(some 46), .mv (.reg 3), (some (45, false))⟩,
    ⟨(some 47), .bin .eql (.reg 46) (.cst (.data (.int .i64 7))), (some (45, false))⟩,
    ⟨(some 48), .mv (.reg 47), (some (45, false))⟩,
    ⟨(some 49), .faddr 8 (.reg 1), (some (48, true))⟩,
    ⟨(some 50), .load none (.reg 49), (some (48, true))⟩,
    ⟨(some 51), .call 19 [(.reg 50)], (some (48, true))⟩,
    ⟨(some 52), .pick (.reg 48) (.reg 51) (.cst (.data (.bool false))), (some (45, false))⟩,
    ⟨(some 53), .pick (.reg 45) (.cst (.data (.bool true))) (.reg 52), (some (41, true))⟩,
    ⟨(some 54), .pick (.reg 41) (.reg 53) (.cst (.data (.bool false))), none⟩,
    ⟨(some 5), .mv (.reg 54), none⟩])
  (.seq (.region 4 [1, 3, 4, 5] [⟨(some 55), .mv (.reg 5), none⟩,
    ⟨(some 56), .mv (.reg 55), none⟩,
    ⟨(some 57), .faddr 2 (.reg 1), (some (56, true))⟩,
    ⟨(some 58), .load none (.reg 57), (some (56, true))⟩,
    ⟨(some 59), .len false (.reg 58), (some (56, true))⟩,
    ⟨(some 60), .mv (.reg 3), (some (56, true))⟩,
    ⟨(some 61), .bin .eql (.reg 60) (.cst (.data (.int .i64 1))), (some (56, true))⟩,
    ⟨(some 62), .call 83 [(.reg 59), (.cst (.data (.int .i64 8))), (.reg 61), (.cst (.data (.int .i64 1)))], (some (56, true))⟩,
    ⟨(some 63), .pick (.reg 56) (.reg 62) (.cst (.data (.bool false))), none⟩,
    ⟨(some 64), .mv (.reg 63), none⟩,
    ⟨(some 65), .faddr 5 (.reg 1), (some (64, true))⟩,
    ⟨(some 66), .load none (.reg 65), (some (64, true))⟩,
    ⟨(some 67), .len false (.reg 66), (some (64, true))⟩,
    ⟨(some 68), .mv (.reg 3), (some (64, true))⟩,
    ⟨(some 69), .bin .eql (.reg 68) (.cst (.data (.int .i64 4))), (some (64, true))⟩,
    ⟨(some 70), .call 83 [(.reg 67), (.cst (.data (.int .i64 16))), (.reg 69), (.cst (.data (.int .i64 1)))], (some (64, true))⟩,
    ⟨(some 71), .pick (.reg 64) (.reg 70) (.cst (.data (.bool false))), none⟩,
    ⟨(some 72), .mv (.reg 71), none⟩,
    ⟨(some 73), .faddr 6 (.reg 1), (some (72, true))⟩,
    ⟨(some 74), .load none (.reg 73), (some (72, true))⟩,
    ⟨(some 75), .len false (.reg 74), (some (72, true))⟩,
    ⟨(some 76), .mv (.reg 3), (some (72, true))⟩,
    ⟨(some 77), .bin .eql (.reg 76) (.cst (.data (.int .i64 5))), (some (72, true))⟩,
    ⟨(some 78), .call 83 [(.reg 75), (.cst (.data (.int .i64 8))), (.reg 77), (.cst (.data (.int .i64 1)))], (some (72, true))⟩,
    ⟨(some 79), .pick (.reg 72) (.reg 78) (.cst (.data (.bool false))), none⟩,
    ⟨(some 80), .mv (.reg 79), none⟩,
    ⟨(some 81), .faddr 7 (.reg 1), (some (80, true))⟩,
    ⟨(some 82), .load none (.reg 81), (some (80, true))⟩,
    ⟨(some 83), .len false (.reg 82), (some (80, true))⟩,
    ⟨(some 84), .mv (.reg 3), (some (80, true))⟩,
    ⟨(some 85), .bin .eql (.reg 84) (.cst (.data (.int .i64 7))), (some (80, true))⟩,
    ⟨(some 86), .call 83 [(.reg 83), (.cst (.data (.int .i64 16))), (.reg 85), (.cst (.data (.int .i64 1)))], (some (80, true))⟩,
    ⟨(some 87), .pick (.reg 80) (.reg 86) (.cst (.data (.bool false))), none⟩,
    ⟨(some 5), .mv (.reg 87), none⟩])
  (.seq (.region 5 [1, 3, 5] [⟨(some 88), .mv (.reg 5), none⟩,
    ⟨(some 89), .mv (.reg 88), none⟩,
    ⟨(some 90), .faddr 9 (.reg 1), (some (89, true))⟩,
    ⟨(some 91), .load none (.reg 90), (some (89, true))⟩,
    ⟨(some 92), .len false (.reg 91), (some (89, true))⟩,
    ⟨(some 93), .faddr 8 (.reg 1), (some (89, true))⟩,
    ⟨(some 94), .load none (.reg 93), (some (89, true))⟩,
    ⟨(some 95), .bin .neq (.reg 94) (.cst (.data (.str []))), (some (89, true))⟩,
    ⟨(some 96), .call 83 [(.reg 92), (.cst (.data (.int .i64 1))), (.reg 95), (.cst (.data (.int .i64 1)))], (some (89, true))⟩,
    ⟨(some 97), .pick (.reg 89) (.reg 96) (.cst (.data (.bool false))), none⟩,
    ⟨(some 98), .mv (.reg 97), none⟩,
    ⟨(some 99), .faddr 10 (.reg 1), (some (98, true))⟩,
    ⟨(some 100), .load none (.reg 99), (some (98, true))⟩,
    ⟨(some 101), .len false (.reg 100), (some (98, true))⟩,
    ⟨(some 102), .mv (.reg 4), (some (98, true))⟩,
    ⟨(some 103), .call 83 [(.reg 101), (.cst (.data (.int .i64 1))), (.reg 102), (.cst (.data (.int .i64 0)))], (some (98, true))⟩,
    ⟨(some 104), .pick (.reg 98) (.reg 103) (.cst (.data (.bool false))), none⟩,
    ⟨(some 105), .mv (.reg 104), none⟩,
    ⟨(some 106), .faddr 11 (.reg 1), (some (105, true))⟩,
    ⟨(some 107), .load none (.reg 106), (some (105, true))⟩,
    ⟨(some 108), .len false (.reg 107), (some (105, true))⟩,
    ⟨(some 109), .mv (.reg 3), (some (105, true))⟩,
    ⟨(some 110), .bin .eql (.reg 109) (.cst (.data (.int .i64 7))), (some (105, true))⟩,
    ⟨(some 111), .call 83 [(.reg 108), (.cst (.data (.int .i64 1))), (.reg 110), (.cst (.data (.int .i64 0)))], (some (105, true))⟩,
    ⟨(some 112), .pick (.reg 105) (.reg 111) (.cst (.data (.bool false))), none⟩,
    ⟨(some 113), .mv (.reg 112), none⟩,
    ⟨(some 114), .faddr 12 (.reg 1), (some (113, true))⟩,
    ⟨(some 115), .load none (.reg 114), (some (113, true))⟩,
    ⟨(some 116), .len false (.reg 115), (some (113, true))⟩,
    ⟨(some 117), .mv (.reg 3), (some (113, true))⟩,
    ⟨(some 118), .bin .eql (.reg 117) (.cst (.data (.int .i64 7))), (some (113, true))⟩,
    ⟨(some 119), .call 83 [(.reg 116), (.cst (.data (.int .i64 8))), (.reg 118), (.cst (.data (.int .i64 0)))], (some (113, true))⟩,
    ⟨(some 120), .pick (.reg 113) (.reg 119) (.cst (.data (.bool false))), none⟩,
    ⟨(some 5), .mv (.reg 120), none⟩])
  (.seq (.seq (.region 6 [1, 5, 122] [⟨(some 121), .mv (.reg 3), none⟩,
    ⟨(some 122), .bin .eql (.reg 121) (.cst (.data (.int .i64 7))), none⟩])
  (.cond (.reg 122)
    (.region 7 [1, 5] [⟨(some 123), .mv (.reg 5), none⟩,
      ⟨(some 124), .mv (.reg 123), none⟩,
      ⟨(some 125), .faddr 13 (.reg 1), (some (124, true))⟩,
      ⟨(some 126), .load none (.reg 125), (some (124, true))⟩,
      ⟨(some 127), .bin .geq (.reg 126) (.cst (.data (.int .i64 (-1)))), (some (124, true))⟩,
      ⟨(some 128), .pick (.reg 124) (.reg 127) (.cst (.data (.bool false))), none⟩,
      ⟨(some 129), .mv (.reg 128), none⟩,
      ⟨(some 130), .faddr 13 (.reg 1), (some (129, true))⟩,
      ⟨(some 131), .load none (.reg 130), (some (129, true))⟩,
      ⟨(some 132), .bin .leq (.reg 131) (.cst (.data (.int .i64 2147483648))), (some (129, true))⟩,
      ⟨(some 133), .pick (.reg 129) (.reg 132) (.cst (.data (.bool false))), none⟩,
      ⟨(some 5), .mv (.reg 133), none⟩])
    (.region 8 [1, 5] [⟨(some 134), .mv (.reg 5), none⟩,
      ⟨(some 135), .mv (.reg 134), none⟩,
      ⟨(some 136), .faddr 13 (.reg 1), (some (135, true))⟩,
      ⟨(some 137), .load none (.reg 136), (some (135, true))⟩,
      ⟨(some 138), .bin .eql (.reg 137) (.cst (.data (.int .i64 0))), (some (135, true))⟩,
      ⟨(some 139), .pick (.reg 135) (.reg 138) (.cst (.data (.bool false))), none⟩,
      ⟨(some 5), .mv (.reg 139), none⟩])))
  (.seq (.region 9 [2] [⟨(some 140), .mv (.reg 5), none⟩,
    ⟨(some 141), .mv (.reg 140), none⟩,
    ⟨(some 142), .faddr 2 (.reg 1), (some (141, true))⟩,
    ⟨(some 143), .load none (.reg 142), (some (141, true))⟩,
    ⟨(some 144), .call 84 [(.reg 143), (.cst (.func 85 [] []))], (some (141, true))⟩,
    ⟨(some 145), .un .not (.reg 144), (some (141, true))⟩,
    ⟨(some 146), .pick (.reg 141) (.reg 145) (.cst (.data (.bool false))), none⟩,
    ⟨(some 147), .mv (.reg 146), none⟩,
    ⟨(some 148), .faddr 5 (.reg 1), (some (147, true))⟩,
    ⟨(some 149), .load none (.reg 148), (some (147, true))⟩,
    ⟨(some 150), .call 86 [(.reg 149), (.cst (.func 87 [] []))], (some (147, true))⟩,
    ⟨(some 151), .un .not (.reg 150), (some (147, true))⟩,
    ⟨(some 152), .pick (.reg 147) (.reg 151) (.cst (.data (.bool false))), none⟩,
    ⟨(some 153), .mv (.reg 152), none⟩,
    ⟨(some 154), .faddr 6 (.reg 1), (some (153, true))⟩,
    ⟨(some 155), .load none (.reg 154), (some (153, true))⟩,
    ⟨(some 156), .call 88 [(.reg 155), (.cst (.func 89 [] []))], (some (153, true))⟩,
    ⟨(some 157), .un .not (.reg 156), (some (153, true))⟩,
    ⟨(some 158), .pick (.reg 153) (.reg 157) (.cst (.data (.bool false))), none⟩,
    ⟨(some 159), .mv (.reg 158), none⟩,
    ⟨(some 160), .faddr 12 (.reg 1), (some (159, true))⟩,
    ⟨(some 161), .load none (.reg 160), (some (159, true))⟩,
    ⟨(some 162), .call 90 [(.reg 161), (.cst (.func 91 [] []))], (some (159, true))⟩,
    ⟨(some 163), .un .not (.reg 162), (some (159, true))⟩,
    ⟨(some 164), .pick (.reg 159) (.reg 163) (.cst (.data (.bool false))), none⟩,
    ⟨(some 2), .mv (.reg 164), none⟩])
  .ret)))))))) }
/-- switchback/syntax.Check$1 -/
def F50 : IFunc := { nargs := 2, results := [], body :=
  (.region 0 [] [⟨(some 3), .load (some 14) (.reg 1), none⟩,
    ⟨(some 4), .mv (.reg 0), none⟩,
    ⟨(some 5), .call 51 [(.reg 3), (.reg 4)], none⟩]) }
/-- switchback/syntax.CheckExpr$1 -/
def F52 : IFunc := { nargs := 1, results := [], body :=
  (.region 0 [] [⟨(some 1), .recover, none⟩,
    ⟨(some 2), .call 53 [(.reg 1), (.reg 0)], none⟩]) }
/-- (*switchback/syntax.walker).walk -/
def F54 : IFunc := { nargs := 3, results := [], body :=
  (.seq (.region 0 [0, 2, 4] [⟨(some 4), .box (.reg 1), none⟩])
  (.seq (.region 1 [0, 2, 4] [⟨(some 8), .mv (.reg 2), none⟩,
    ⟨(some 9), .bin .leq (.reg 8) (.cst (.data (.int .i64 12))), none⟩,
    ⟨(some 10), .call 93 [(.reg 9), (.cst (.data (.int .i64 10)))], none⟩])
  (.seq (.region 2 [0, 2, 4] [⟨(some 11), .mv (.reg 0), none⟩,
    ⟨(some 12), .nilChk (.reg 11), none⟩,
    ⟨(some 13), .load none (.reg 12), none⟩,
    ⟨(some 14), .bin .lss (.reg 13) (.cst (.data (.int .i64 64))), none⟩,
    ⟨(some 15), .call 93 [(.reg 14), (.cst (.data (.int .i64 3)))], none⟩])
  (.seq (.region 3 [0, 2, 4] [⟨(some 16), .load (some 7) (.reg 4), none⟩,
    ⟨(some 17), .call 94 [(.reg 16)], none⟩,
    ⟨(some 18), .call 93 [(.reg 17), (.cst (.data (.int .i64 9)))], none⟩])
  (.seq (.region 4 [0, 2, 4] [⟨(some 19), .mv (.reg 0), none⟩,
    ⟨(some 20), .nilChk (.reg 19), none⟩,
    ⟨(some 21), .load none (.reg 20), none⟩,
    ⟨(some 22), .bin .add (.reg 21) (.cst (.data (.int .i64 1))), none⟩,
    ⟨(some 23), .nilChk (.reg 19), none⟩,
    ⟨none, .store 1 (.reg 23) (.reg 22), none⟩])
  (.seq (.region 5 [0, 2, 25, 26, 27] [⟨(some 24), .faddr 6 (.reg 4), none⟩,
    ⟨(some 25), .load none (.reg 24), none⟩,
    ⟨(some 26), .len false (.reg 25), none⟩,
    ⟨(some 27), .mv (.cst (.data (.int .i64 0))), none⟩])
  (.block 0 (.loop (.seq (.region 6 [0, 2, 25, 26, 27, 28] [⟨(some 28), .bin .lss (.reg 27) (.reg 26), none⟩])
  (.seq (.cond (.reg 28)
    .skip
    (.exit 0))
  (.seq (.block 1 (.seq (.region 7 [0, 2, 7, 25, 26, 27] [⟨(some 29), .iaddr 7 (.reg 25) (.reg 27), none⟩,
    ⟨(some 30), .load (some 7) (.reg 29), none⟩,
    ⟨(some 7), .alloc [(.data (.int .i64 0)), (.data (.int .i64 0)), (.data (.int .i64 0)), (.data (.str [])), (.data (.str [])), (.data (.str [])), (.full [])], none⟩,
    ⟨none, .store 7 (.reg 7) (.reg 30), none⟩])
  (.region 8 [0, 2, 25, 26, 27] [⟨(some 31), .mv (.reg 0), none⟩,
    ⟨(some 32), .load (some 7) (.reg 7), none⟩,
    ⟨(some 33), .mv (.reg 2), none⟩,
    ⟨(some 34), .bin .add (.reg 33) (.cst (.data (.int .i64 1))), none⟩,
    ⟨(some 35), .call 54 [(.reg 31), (.reg 32), (.reg 34)], none⟩])))
  (.region 9 [0, 2, 25, 26, 27] [⟨(some 36), .bin .add (.reg 27) (.cst (.data (.int .i64 1))), none⟩,
    ⟨(some 27), .mv (.reg 36), none⟩])))))))))))) }
/-- switchback/syntax.Literal -/
def F55 : IFunc := { nargs := 1, results := [.reg 2], body :=
  (.seq (.region 0 [1] [⟨(some 1), .box (.reg 0), none⟩,
    ⟨(some 2), .mv (.cst (.data (.str []))), none⟩])
  (.seq (.seq (.region 1 [1, 4] [⟨(some 3), .faddr 0 (.reg 1), none⟩,
    ⟨(some 4), .load none (.reg 3), none⟩])
  (.block 0 (.seq (.region 2 [1, 4, 5] [⟨(some 6), .bin .eql (.reg 4) (.cst (.data (.int .i64 0))), none⟩,
    ⟨(some 5), .mv (.reg 6), none⟩])
  (.cond (.reg 5)
    (.seq (.region 3 [2] [⟨(some 2), .mv (.cst (.data (.str [78, 85, 76, 76]))), none⟩])
    .ret)
    (.seq (.region 4 [1, 4, 7] [⟨(some 8), .bin .eql (.reg 4) (.cst (.data (.int .i64 1))), none⟩,
      ⟨(some 7), .mv (.reg 8), none⟩])
    (.cond (.reg 7)
      (.seq (.region 5 [2] [⟨(some 9), .faddr 1 (.reg 1), none⟩,
        ⟨(some 10), .load none (.reg 9), none⟩,
        ⟨(some 11), .call 95 [(.reg 10)], none⟩,
        ⟨(some 2), .mv (.reg 11), none⟩])
      .ret)
      (.seq (.region 6 [1, 12] [⟨(some 13), .bin .eql (.reg 4) (.cst (.data (.int .i64 2))), none⟩,
        ⟨(some 12), .mv (.reg 13), none⟩])
      (.cond (.reg 12)
        (.seq (.region 7 [2] [⟨(some 14), .build [(.data (.str [])), (.data (.str []))] [(0, 1, (.cst (.data (.str [70, 65, 76, 83, 69])))), (1, 1, (.cst (.data (.str [84, 82, 85, 69]))))], none⟩,
          ⟨(some 15), .faddr 1 (.reg 1), none⟩,
          ⟨(some 16), .load none (.reg 15), none⟩,
          ⟨(some 17), .idxA 2 1 none (.reg 14) (.reg 16), none⟩,
          ⟨(some 2), .mv (.reg 17), none⟩])
        .ret)
        .skip))))))))
  (.seq (.region 8 [2] [⟨(some 18), .faddr 2 (.reg 1), none⟩,
    ⟨(some 19), .load none (.reg 18), none⟩,
    ⟨(some 20), .call 96 [(.reg 19), (.cst (.data (.str [39]))), (.cst (.data (.str [39, 39])))], none⟩,
    ⟨(some 21), .bin .add (.cst (.data (.str [39]))) (.reg 20), none⟩,
    ⟨(some 22), .bin .add (.reg 21) (.cst (.data (.str [39]))), none⟩,
    ⟨(some 2), .mv (.reg 22), none⟩])
  .ret))) }
/-- strings.TrimPrefix -/
def F56 : IFunc := { nargs := 2, results := [.reg 4], body :=
  (.seq (.region 0 [0, 1] [⟨(some 4), .mv (.cst (.data (.str []))), none⟩])
  (.seq (.region 1 [4] [⟨(some 5), .mv (.reg 0), none⟩,
    ⟨(some 6), .mv (.reg 1), none⟩,
    ⟨(some 7), .call 97 [(.reg 5), (.reg 6)], none⟩,
    ⟨(some 4), .mv (.reg 7), none⟩])
  .ret)) }
/-- switchback/syntax.named -/
def F82 : IFunc := { nargs := 2, results := [.reg 4], body :=
  (.seq (.region 0 [0, 1] [⟨(some 4), .mv (.cst (.data (.bool false))), none⟩])
  (.seq (.seq (.region 1 [0, 5] [⟨(some 5), .mv (.reg 1), none⟩])
  (.cond (.reg 5)
    (.seq (.region 2 [4] [⟨(some 6), .mv (.reg 0), none⟩,
      ⟨(some 7), .call 19 [(.reg 6)], none⟩,
      ⟨(some 4), .mv (.reg 7), none⟩])
    .ret)
    .skip))
  (.seq (.region 3 [4] [⟨(some 8), .mv (.reg 0), none⟩,
    ⟨(some 9), .bin .eql (.reg 8) (.cst (.data (.str []))), none⟩,
    ⟨(some 4), .mv (.reg 9), none⟩])
  .ret))) }
/-- switchback/syntax.Name -/
def F19 : IFunc := { nargs := 1, results := [.reg 2], body :=
  (.seq (.region 0 [0] [⟨(some 2), .mv (.cst (.data (.bool false))), none⟩])
  (.seq (.seq (.region 1 [0, 19] [⟨(some 3), .mv (.reg 0), none⟩,
    ⟨(some 4), .bin .eql (.reg 3) (.cst (.data (.str []))), none⟩,
    ⟨(some 5), .mv (.reg 4), none⟩,
    ⟨(some 6), .mv (.reg 0), (some (5, false))⟩,
    ⟨(some 7), .len true (.reg 6), (some (5, false))⟩,
    ⟨(some 8), .bin .gtr (.reg 7) (.cst (.data (.int .i64 16))), (some (5, false))⟩,
    ⟨(some 9), .pick (.reg 5) (.cst (.data (.bool true))) (.reg 8), none⟩,
    ⟨(some 10), .mv (.reg 9), none⟩,
    ⟨(some 11), .mv (.reg 0), (some (10, false))⟩,
    ⟨(some 12), .idxS (.reg 11) (.cst (.data (.int .i64 0))), (some (10, false))⟩,
    ⟨(some 13), .bin .sub (.reg 12) (.cst (.data (.int .u8 48))), (some (10, false))⟩,
    ⟨(some 14), .bin .lss (.reg 13) (.cst (.data (.int .u8 10))), (some (10, false))⟩,
    ⟨(some 15), .pick (.reg 10) (.cst (.data (.bool true))) (.reg 14), none⟩,
    ⟨(some 16), .mv (.reg 15), none⟩,
    ⟨(some 17), .mv (.reg 0), (some (16, false))⟩,
    ⟨(some 18), .call 18 [(.reg 17)], (some (16, false))⟩,
    ⟨(some 19), .pick (.reg 16) (.cst (.data (.bool true))) (.reg 18), none⟩])
  (.cond (.reg 19)
    (.seq (.region 2 [2] [⟨(some 2), .mv (.cst (.data (.bool false))), none⟩])
    .ret)
    .skip))
  (.seq (.region 3 [2] [⟨(some 20), .mv (.reg 0), none⟩,
    ⟨(some 21), .cvBytes (.reg 20), none⟩,
    ⟨(some 22), .call 47 [(.reg 21), (.cst (.func 48 [] []))], none⟩,
    ⟨(some 23), .un .not (.reg 22), none⟩,
    ⟨(some 2), .mv (.reg 23), none⟩])
  .ret))) }
/-- switchback/syntax.count -/
def F83 : IFunc := { nargs := 4, results := [.reg 8], body :=
  (.seq (.region 0 [0, 1, 2, 3] [⟨(some 8), .mv (.cst (.data (.bool false))), none⟩])
  (.seq (.seq (.region 1 [0, 1, 3, 10] [⟨(some 9), .mv (.reg 2), none⟩,
    ⟨(some 10), .un .not (.reg 9), none⟩])
  (.cond (.reg 10)
    (.seq (.region 2 [8] [⟨(some 11), .mv (.reg 0), none⟩,
      ⟨(some 12), .bin .eql (.reg 11) (.cst (.data (.int .i64 0))), none⟩,
      ⟨(some 8), .mv (.reg 12), none⟩])
    .ret)
    .skip))
  (.seq (.region 3 [8] [⟨(some 13), .mv (.reg 0), none⟩,
    ⟨(some 14), .mv (.reg 3), none⟩,
    ⟨(some 15), .bin .geq (.reg 13) (.reg 14), none⟩,
    ⟨(some 16), .mv (.reg 15), none⟩,
    ⟨(some 17), .mv (.reg 0), (some (16, true))⟩,
    ⟨(some 18), .mv (.reg 1), (some (16, true))⟩,
    ⟨(some 19), .bin .leq (.reg 17) (.reg 18), (some (16, true))⟩,
    ⟨(some 20), .pick (.reg 16) (.reg 19) (.cst (.data (.bool false))), none⟩,
    ⟨(some 8), .mv (.reg 20), none⟩])
  .ret))) }
/-- slices.ContainsFunc[[]switchback/api.Column,switchback/api.Column] -/
def F84 : IFunc := { nargs := 2, results := [.reg 4], body :=
  (.seq (.region 0 [0, 1] [⟨(some 4), .mv (.cst (.data (.bool false))), none⟩])
  (.seq (.region 1 [4] [⟨(some 5), .mv (.reg 0), none⟩,
    ⟨(some 6), .mv (.reg 1), none⟩,
    ⟨(some 7), .call 111 [(.reg 5), (.reg 6)], none⟩,
    ⟨(some 8), .bin .geq (.reg 7) (.cst (.data (.int .i64 0))), none⟩,
    ⟨(some 4), .mv (.reg 8), none⟩])
  .ret)) }
/-- switchback/syntax.shape$1 -/
def F85 : IFunc := { nargs := 1, results := [.reg 2], body :=
  (.seq (.region 0 [1] [⟨(some 1), .box (.reg 0), none⟩,
    ⟨(some 2), .mv (.cst (.data (.bool false))), none⟩])
  (.seq (.region 1 [2] [⟨(some 3), .faddr 0 (.reg 1), none⟩,
    ⟨(some 4), .load none (.reg 3), none⟩,
    ⟨(some 5), .call 19 [(.reg 4)], none⟩,
    ⟨(some 6), .un .not (.reg 5), none⟩,
    ⟨(some 7), .mv (.reg 6), none⟩,
    ⟨(some 8), .faddr 1 (.reg 1), (some (7, false))⟩,
    ⟨(some 9), .load none (.reg 8), (some (7, false))⟩,
    ⟨(some 10), .bin .lss (.reg 9) (.cst (.data (.int .i64 1))), (some (7, false))⟩,
    ⟨(some 11), .pick (.reg 7) (.cst (.data (.bool true))) (.reg 10), none⟩,
    ⟨(some 12), .mv (.reg 11), none⟩,
    ⟨(some 13), .faddr 1 (.reg 1), (some (12, false))⟩,
    ⟨(some 14), .load none (.reg 13), (some (12, false))⟩,
    ⟨(some 15), .bin .gtr (.reg 14) (.cst (.data (.int .i64 3))), (some (12, false))⟩,
    ⟨(some 16), .pick (.reg 12) (.cst (.data (.bool true))) (.reg 15), none⟩,
    ⟨(some 2), .mv (.reg 16), none⟩])
  .ret)) }
/-- slices.ContainsFunc[[][]switchback/api.Expr,[]switchback/api.Expr] -/
def F86 : IFunc := { nargs := 2, results := [.reg 4], body :=
  (.seq (.region 0 [0, 1] [⟨(some 4), .mv (.cst (.data (.bool false))), none⟩])
  (.seq (.region 1 [4] [⟨(some 5), .mv (.reg 0), none⟩,
    ⟨(some 6), .mv (.reg 1), none⟩,
    ⟨(some 7), .call 112 [(.reg 5), (.reg 6)], none⟩,
    ⟨(some 8), .bin .geq (.reg 7) (.cst (.data (.int .i64 0))), none⟩,
    ⟨(some 4), .mv (.reg 8), none⟩])
  .ret)) }
/-- switchback/syntax.shape$2 -/
def F87 : IFunc := { nargs := 1, results := [.reg 2], body :=
  (.seq (.region 0 [0] [⟨(some 2), .mv (.cst (.data (.bool false))), none⟩])
  (.seq (.region 1 [2] [⟨(some 3), .mv (.reg 0), none⟩,
    ⟨(some 4), .len false (.reg 3), none⟩,
    ⟨(some 5), .bin .lss (.reg 4) (.cst (.data (.int .i64 1))), none⟩,
    ⟨(some 6), .mv (.reg 5), none⟩,
    ⟨(some 7), .mv (.reg 0), (some (6, false))⟩,
    ⟨(some 8), .len false (.reg 7), (some (6, false))⟩,
    ⟨(some 9), .bin .gtr (.reg 8) (.cst (.data (.int .i64 8))), (some (6, false))⟩,
    ⟨(some 10), .pick (.reg 6) (.cst (.data (.bool true))) (.reg 9), none⟩,
    ⟨(some 2), .mv (.reg 10), none⟩])
  .ret)) }
/-- slices.ContainsFunc[[]switchback/api.Set,switchback/api.Set] -/
def F88 : IFunc := { nargs := 2, results := [.reg 4], body :=
  (.seq (.region 0 [0, 1] [⟨(some 4), .mv (.cst (.data (.bool false))), none⟩])
  (.seq (.region 1 [4] [⟨(some 5), .mv (.reg 0), none⟩,
    ⟨(some 6), .mv (.reg 1), none⟩,
    ⟨(some 7), .call 113 [(.reg 5), (.reg 6)], none⟩,
    ⟨(some 8), .bin .geq (.reg 7) (.cst (.data (.int .i64 0))), none⟩,
    ⟨(some 4), .mv (.reg 8), none⟩])
  .ret)) }
/-- switchback/syntax.shape$3 -/
def F89 : IFunc := { nargs := 1, results := [.reg 2], body :=
  (.seq (.region 0 [1] [⟨(some 1), .box (.reg 0), none⟩,
    ⟨(some 2), .mv (.cst (.data (.bool false))), none⟩])
  (.seq (.region 1 [2] [⟨(some 3), .faddr 0 (.reg 1), none⟩,
    ⟨(some 4), .load none (.reg 3), none⟩,
    ⟨(some 5), .call 19 [(.reg 4)], none⟩,
    ⟨(some 6), .un .not (.reg 5), none⟩,
    ⟨(some 2), .mv (.reg 6), none⟩])
  .ret)) }
/-- slices.ContainsFunc[[]switchback/api.Order,switchback/api.Order] -/
def F90 : IFunc := { nargs := 2, results := [.reg 4], body :=
  (.seq (.region 0 [0, 1] [⟨(some 4), .mv (.cst (.data (.bool false))), none⟩])
  (.seq (.region 1 [4] [⟨(some 5), .mv (.reg 0), none⟩,
    ⟨(some 6), .mv (.reg 1), none⟩,
    ⟨(some 7), .call 114 [(.reg 5), (.reg 6)], none⟩,
    ⟨(some 8), .bin .geq (.reg 7) (.cst (.data (.int .i64 0))), none⟩,
    ⟨(some 4), .mv (.reg 8), none⟩])
  .ret)) }
/-- switchback/syntax.shape$4 -/
def F91 : IFunc := { nargs := 1, results := [.reg 2], body :=
  (.seq (.region 0 [1] [⟨(some 1), .box (.reg 0), none⟩,
    ⟨(some 2), .mv (.cst (.data (.bool false))), none⟩])
  (.seq (.region 1 [2] [⟨(some 3), .faddr 0 (.reg 1), none⟩,
    ⟨(some 4), .load none (.reg 3), none⟩,
    ⟨(some 5), .bin .lss (.reg 4) (.cst (.data (.int .i64 1))), none⟩,
    ⟨(some 6), .mv (.reg 5), none⟩,
    ⟨(some 7), .faddr 0 (.reg 1), (some (6, false))⟩,
    ⟨(some 8), .load none (.reg 7), (some (6, false))⟩,
    ⟨(some 9), .bin .gtr (.reg 8) (.cst (.data (.int .i64 16))), (some (6, false))⟩,
    ⟨(some 10), .pick (.reg 6) (.cst (.data (.bool true))) (.reg 9), none⟩,
    ⟨(some 2), .mv (.reg 10), none⟩])
  .ret)) }
/-- switchback/syntax.exprs -/
def F51 : IFunc := { nargs := 2, results := [], body :=
  (.seq (.region 0 [1, 2] [⟨(some 2), .box (.reg 0), none⟩])
  (.seq (.region 1 [1, 2, 4] [⟨(some 11), .faddr 5 (.reg 2), none⟩,
    ⟨(some 12), .load none (.reg 11), none⟩,
    ⟨(some 13), .call 92 [(.reg 12)], none⟩,
    ⟨(some 4), .mv (.reg 13), none⟩])
  (.seq (.seq (.region 2 [1, 2, 4, 15, 16, 17] [⟨(some 14), .faddr 6 (.reg 2), none⟩,
    ⟨(some 15), .load none (.reg 14), none⟩,
    ⟨(some 16), .len false (.reg 15), none⟩,
    ⟨(some 17), .mv (.cst (.data (.int .i64 0))), none⟩])
  (.block 0 (.loop (.seq (.region 3 [1, 2, 4, 15, 16, 17, 18] [⟨(some 18), .bin .lss (.reg 17) (.reg 16), none⟩])
  (.seq (.cond (.reg 18)
    .skip
    (.exit 0))
  (.seq (.block 1 (.seq (.region 4 [1, 2, 4, 6, 15, 16, 17] [⟨(some 19), .iaddr 8 (.reg 15) (.reg 17), none⟩,
    ⟨(some 20), .load (some 8) (.reg 19), none⟩,
    ⟨(some 6), .alloc [(.data (.str [])), (.data (.int .i64 0)), (.data (.int .i64 0)), (.data (.int .i64 0)), (.data (.str [])), (.data (.str [])), (.data (.str [])), (.full [])], none⟩,
    ⟨none, .store 8 (.reg 6) (.reg 20), none⟩])
  (.region 5 [1, 2, 4, 15, 16, 17] [⟨(some 21), .mv (.reg 4), none⟩,
    ⟨(some 22), .faddr 1 (.reg 6), none⟩,
    ⟨(some 23), .load (some 7) (.reg 22), none⟩,
    ⟨(some 24), .slit 7 [(.reg 23)], none⟩,
    ⟨(some 25), .slit 1 [(.reg 24)], none⟩,
    ⟨(some 26), .append 24 1 24 (.reg 21) (.reg 25), none⟩,
    ⟨(some 4), .mv (.reg 26), none⟩])))
  (.region 6 [1, 2, 4, 15, 16, 17] [⟨(some 27), .bin .add (.reg 17) (.cst (.data (.int .i64 1))), none⟩,
    ⟨(some 17), .mv (.reg 27), none⟩])))))))
  (.seq (.region 7 [1, 38, 39, 40] [⟨(some 28), .mv (.reg 4), none⟩,
    ⟨(some 29), .faddr 7 (.reg 2), none⟩,
    ⟨(some 30), .load none (.reg 29), none⟩,
    ⟨(some 31), .faddr 9 (.reg 2), none⟩,
    ⟨(some 32), .load none (.reg 31), none⟩,
    ⟨(some 33), .faddr 10 (.reg 2), none⟩,
    ⟨(some 34), .load none (.reg 33), none⟩,
    ⟨(some 35), .faddr 11 (.reg 2), none⟩,
    ⟨(some 36), .load none (.reg 35), none⟩,
    ⟨(some 37), .slit 1 [(.reg 30), (.reg 32), (.reg 34), (.reg 36)], none⟩,
    ⟨(some 38), .append 24 1 24 (.reg 28) (.reg 37), none⟩,
    ⟨(some 39), .len false (.reg 38), none⟩,
    ⟨(some 40), .mv (.cst (.data (.int .i64 0))), none⟩])
  (.block 2 (.loop (.seq (.region 8 [1, 38, 39, 40, 41] [⟨(some 41), .bin .lss (.reg 40) (.reg 39), none⟩])
  (.seq (.cond (.reg 41)
    .skip
    (.exit 2))
  (.seq (.block 3 (.seq (.region 9 [1, 8, 38, 39, 40] [⟨(some 42), .iaddr 1 (.reg 38) (.reg 40), none⟩,
    ⟨(some 43), .load none (.reg 42), none⟩,
    ⟨(some 8), .mv (.reg 43), none⟩])
  (.seq (.region 10 [1, 38, 39, 40, 44, 45, 46] [⟨(some 44), .mv (.reg 8), none⟩,
    ⟨(some 45), .len false (.reg 44), none⟩,
    ⟨(some 46), .mv (.cst (.data (.int .i64 0))), none⟩])
  (.block 4 (.loop (.seq (.region 11 [1, 38, 39, 40, 44, 45, 46, 47] [⟨(some 47), .bin .lss (.reg 46) (.reg 45), none⟩])
  (.seq (.cond (.reg 47)
    .skip
    (.exit 4))
  (.seq (.block 5 (.seq (.region 12 [1, 10, 38, 39, 40, 44, 45, 46] [⟨(some 48), .iaddr 7 (.reg 44) (.reg 46), none⟩,
    ⟨(some 49), .load (some 7) (.reg 48), none⟩,
    ⟨(some 10), .alloc [(.data (.int .i64 0)), (.data (.int .i64 0)), (.data (.int .i64 0)), (.data (.str [])), (.data (.str [])), (.data (.str [])), (.full [])], none⟩,
    ⟨none, .store 7 (.reg 10) (.reg 49), none⟩])
  (.seq (.region 13 [1, 38, 39, 40, 44, 45, 46, 53] [⟨(some 50), .mv (.reg 1), none⟩,
    ⟨(some 51), .load (some 7) (.reg 10), none⟩,
    ⟨(some 52), .callv (.reg 50) [(.reg 51)], none⟩,
    ⟨(some 53), .un .not (.reg 52), none⟩])
  (.cond (.reg 53)
    .ret
    .skip))))
  (.region 14 [1, 38, 39, 40, 44, 45, 46] [⟨(some 54), .bin .add (.reg 46) (.cst (.data (.int .i64 1))), none⟩,
    ⟨(some 46), .mv (.reg 54), none⟩])))))))))
  (.region 15 [1, 38, 39, 40] [⟨(some 55), .bin .add (.reg 40) (.cst (.data (.int .i64 1))), none⟩,
    ⟨(some 40), .mv (.reg 55), none⟩])))))))))) }
/-- switchback/syntax.told -/
def F53 : IFunc := { nargs := 2, results := [], body :=
  (.seq (.region 0 [1, 4, 5] [⟨(some 7), .mv (.reg 0), none⟩,
    ⟨(some 8), .tassert 28 true (.data (.int .i64 0)) (.reg 7), none⟩,
    ⟨(some 6), .mv (.reg 8), none⟩,
    ⟨(some 9), .extract 0 (.reg 6), none⟩,
    ⟨(some 10), .extract 1 (.reg 6), none⟩,
    ⟨(some 4), .mv (.reg 9), none⟩,
    ⟨(some 5), .mv (.reg 10), none⟩])
  (.seq (.region 1 [1, 4, 11] [⟨(some 11), .mv (.reg 5), none⟩])
  (.cond (.reg 11)
    (.region 2 [] [⟨(some 12), .mv (.reg 1), none⟩,
      ⟨(some 13), .mv (.reg 4), none⟩,
      ⟨(some 14), .nilChk (.reg 12), none⟩,
      ⟨none, .store 1 (.reg 14) (.reg 13), none⟩])
    .skip))) }
/-- switchback/syntax.need -/
def F93 : IFunc := { nargs := 2, results := [], body :=
  (.seq (.region 0 [1, 5] [⟨(some 4), .mv (.reg 0), none⟩,
    ⟨(some 5), .un .not (.reg 4), none⟩])
  (.cond (.reg 5)
    (.region 1 [] [⟨(some 6), .mv (.reg 1), none⟩,
      ⟨(some 7), .mkIface 28 (.reg 6), none⟩,
      ⟨none, .panic (.reg 7), none⟩])
    .skip)) }
/-- switchback/syntax.part -/
def F94 : IFunc := { nargs := 1, results := [.reg 2], body :=
  (.seq (.region 0 [1] [⟨(some 1), .box (.reg 0), none⟩,
    ⟨(some 2), .mv (.cst (.data (.bool false))), none⟩])
  (.seq (.region 1 [1, 3, 4] [⟨(some 6), .faddr 0 (.reg 1), none⟩,
    ⟨(some 7), .load none (.reg 6), none⟩,
    ⟨(some 8), .call 115 [(.reg 7)], none⟩,
    ⟨(some 5), .mv (.reg 8), none⟩,
    ⟨(some 9), .extract 0 (.reg 5), none⟩,
    ⟨(some 10), .extract 1 (.reg 5), none⟩,
    ⟨(some 3), .mv (.reg 9), none⟩,
    ⟨(some 4), .mv (.reg 10), none⟩])
  (.seq (.seq (.region 2 [1, 19] [⟨(some 11), .mv (.reg 4), none⟩,
    ⟨(some 12), .un .not (.reg 11), none⟩,
    ⟨(some 13), .mv (.reg 12), none⟩,
    ⟨(some 14), .mv (.reg 3), (some (13, false))⟩,
    ⟨(some 15), .faddr 6 (.reg 1), (some (13, false))⟩,
    ⟨(some 16), .load none (.reg 15), (some (13, false))⟩,
    ⟨(some 17), .len false (.reg 16), (some (13, false))⟩,
    ⟨(some 18), .bin .neq (.reg 14) (.reg 17), (some (13, false))⟩,
    ⟨(some 19), .pick (.reg 13) (.cst (.data (.bool true))) (.reg 18), none⟩])
  (.cond (.reg 19)
    (.seq (.region 3 [2] [⟨(some 2), .mv (.cst (.data (.bool false))), none⟩])
    .ret)
    .skip))
  (.seq (.seq (.region 4 [1, 21] [⟨(some 20), .faddr 0 (.reg 1), none⟩,
    ⟨(some 21), .load none (.reg 20), none⟩])
  (.block 0 (.seq (.region 5 [1, 21, 22] [⟨(some 23), .bin .eql (.reg 21) (.cst (.data (.int .i64 0))), none⟩,
    ⟨(some 22), .mv (.reg 23), none⟩])
  (.cond (.reg 22)
    (.seq (.region 6 [2] [⟨(some 24), .faddr 4 (.reg 1), none⟩,
      ⟨(some 25), .load none (.reg 24), none⟩,
      ⟨(some 26), .faddr 5 (.reg 1), none⟩,
      ⟨(some 27), .load none (.reg 26), none⟩,
      ⟨(some 28), .bin .add (.reg 25) (.reg 27), none⟩,
      ⟨(some 29), .bin .eql (.reg 28) (.cst (.data (.str []))), none⟩,
      ⟨(some 30), .mv (.reg 29), none⟩,
      ⟨(some 31), .faddr 1 (.reg 1), (some (30, true))⟩,
      ⟨(some 32), .load (some 3) (.reg 31), (some (30, true))⟩,
      ⟨(some 33), .call 116 [(.reg 32)], (some (30, true))⟩,
      ⟨(some 34), .bin .eql (.reg 33) (.cst (.data (.int .i64 0))), (some (30, true))⟩,
      ⟨(some 35), .pick (.reg 30) (.reg 34) (.cst (.data (.bool false))), none⟩,
      ⟨(some 36), .mv (.reg 35), none⟩,
      ⟨(some 37), .faddr 1 (.reg 1), (some (36, true))⟩,
      ⟨(some 38), .faddr 0 (.reg 37), (some (36, true))⟩,
      ⟨(some 39), .load none (.reg 38), (some (36, true))⟩,
      ⟨(some 40), .bin .neq (.reg 39) (.cst (.data (.int .i64 1))), (some (36, true))⟩,
      ⟨(some 41), .mv (.reg 40), (some (36, true))⟩,
      ⟨(some 42), .faddr 1 (.reg 1), (some (41, false))⟩,
      ⟨(some 43), .faddr 1 (.reg 42), (some (41, false))⟩,
      ⟨(some 44), .load none (.reg 43), (some (41, false))⟩,
      ⟨(some 45), .bin .geq (.reg 44) (.cst (.data (.int .i64 0))), (some (41, false))⟩,
      ⟨(some 46), .pick (.reg 41) (.cst (.data (.bool true))) (.reg 45), (some (36, true))⟩,
      ⟨(some 47), .pick (.reg 36) (.reg 46) (.cst (.data (.bool false))), none⟩,
      ⟨(some 2), .mv (.reg 47), none⟩])
    .ret)
    (.seq (.region 7 [1, 48] [⟨(some 49), .bin .eql (.reg 21) (.cst (.data (.int .i64 1))), none⟩,
      ⟨(some 48), .mv (.reg 49), none⟩])
    (.cond (.reg 48)
      (.seq (.region 8 [2] [⟨(some 50), .faddr 1 (.reg 1), none⟩,
        ⟨(some 51), .load (some 3) (.reg 50), none⟩,
        ⟨(some 52), .build [(.data (.int .i64 0)), (.data (.int .i64 0)), (.data (.str []))] [], none⟩,
        ⟨(some 53), .eqA false [.i, .i, .s] (.reg 51) (.reg 52), none⟩,
        ⟨(some 54), .mv (.reg 53), none⟩,
        ⟨(some 55), .faddr 5 (.reg 1), (some (54, true))⟩,
        ⟨(some 56), .load none (.reg 55), (some (54, true))⟩,
        ⟨(some 57), .call 19 [(.reg 56)], (some (54, true))⟩,
        ⟨(some 58), .pick (.reg 54) (.reg 57) (.cst (.data (.bool false))), none⟩,
        ⟨(some 59), .mv (.reg 58), none⟩,
        ⟨(some 60), .faddr 4 (.reg 1), (some (59, true))⟩,
        ⟨(some 61), .load none (.reg 60), (some (59, true))⟩,
        ⟨(some 62), .bin .eql (.reg 61) (.cst (.data (.str []))), (some (59, true))⟩,
        ⟨(some 63), .mv (.reg 62), (some (59, true))⟩,
        ⟨(some 64), .faddr 4 (.reg 1), (some (63, false))⟩,
        ⟨(some 65), .load none (.reg 64), (some (63, false))⟩,
        ⟨(some 66), .call 19 [(.reg 65)], (some (63, false))⟩,
        ⟨(some 67), .pick (.reg 63) (.cst (.data (.bool true))) (.reg 66), (some (59, true))⟩,
        ⟨(some 68), .pick (.reg 59) (.reg 67) (.cst (.data (.bool false))), none⟩,
        ⟨(some 2), .mv (.reg 68), none⟩])
      .ret)
      .skip))))))
  (.seq (.region 9 [2] [⟨(some 69), .faddr 1 (.reg 1), none⟩,
    ⟨(some 70), .load (some 3) (.reg 69), none⟩,
    ⟨(some 71), .build [(.data (.int .i64 0)), (.data (.int .i64 0)), (.data (.str []))] [], none⟩,
    ⟨(some 72), .eqA false [.i, .i, .s] (.reg 70) (.reg 71), none⟩,
    ⟨(some 73), .mv (.reg 72), none⟩,
    ⟨(some 74), .faddr 4 (.reg 1), (some (73, true))⟩,
    ⟨(some 75), .load none (.reg 74), (some (73, true))⟩,
    ⟨(some 76), .faddr 5 (.reg 1), (some (73, true))⟩,
    ⟨(some 77), .load none (.reg 76), (some (73, true))⟩,
    ⟨(some 78), .bin .add (.reg 75) (.reg 77), (some (73, true))⟩,
    ⟨(some 79), .bin .eql (.reg 78) (.cst (.data (.str []))), (some (73, true))⟩,
    ⟨(some 80), .pick (.reg 73) (.reg 79) (.cst (.data (.bool false))), none⟩,
    ⟨(some 2), .mv (.reg 80), none⟩])
  .ret))))) }
/-- switchback/syntax.Decimal -/
def F95 : IFunc := { nargs := 1, results := [.reg 2], body :=
  (.seq (.region 0 [0] [⟨(some 2), .mv (.cst (.data (.str []))), none⟩])
  (.seq (.seq (.region 1 [0, 11] [⟨(some 5), .mv (.reg 0), none⟩,
    ⟨(some 6), .bin .lss (.reg 5) (.cst (.data (.int .i64 0))), none⟩,
    ⟨(some 7), .mv (.reg 6), none⟩,
    ⟨(some 8), .mv (.reg 0), (some (7, true))⟩,
    ⟨(some 9), .bin .quo (.reg 8) (.cst (.data (.int .i64 10))), (some (7, true))⟩,
    ⟨(some 10), .bin .eql (.reg 9) (.cst (.data (.int .i64 0))), (some (7, true))⟩,
    ⟨(some 11), .pick (.reg 7) (.reg 10) (.cst (.data (.bool false))), none⟩])
  (.cond (.reg 11)
    (.seq (.region 2 [2] [⟨(some 12), .mv (.reg 0), none⟩,
      ⟨(some 13), .un .neg (.reg 12), none⟩,
      ⟨(some 14), .call 95 [(.reg 13)], none⟩,
      ⟨(some 15), .bin .add (.cst (.data (.str [45]))) (.reg 14), none⟩,
      ⟨(some 2), .mv (.reg 15), none⟩])
    .ret)
    .skip))
  (.seq (.region 3 [0, 3] [⟨(some 16), .mv (.reg 0), none⟩,
    ⟨(some 17), .bin .rem (.reg 16) (.cst (.data (.int .i64 10))), none⟩,
    ⟨(some 3), .mv (.reg 17), none⟩])
  (.seq (.region 4 [0, 4] [⟨(some 18), .mv (.reg 3), none⟩,
    ⟨(some 19), .mv (.reg 3), none⟩,
    ⟨(some 20), .un .neg (.reg 19), none⟩,
    ⟨(some 21), .minmax true [(.reg 18), (.reg 20)], none⟩,
    ⟨(some 22), .bin .add (.cst (.data (.int .i64 48))) (.reg 21), none⟩,
    ⟨(some 23), .cvInt .i32 (.reg 22), none⟩,
    ⟨(some 24), .cvRune (.reg 23), none⟩,
    ⟨(some 4), .mv (.reg 24), none⟩])
  (.seq (.seq (.region 5 [0, 4, 27] [⟨(some 25), .mv (.reg 0), none⟩,
    ⟨(some 26), .bin .quo (.reg 25) (.cst (.data (.int .i64 10))), none⟩,
    ⟨(some 27), .bin .neq (.reg 26) (.cst (.data (.int .i64 0))), none⟩])
  (.cond (.reg 27)
    (.seq (.region 6 [2] [⟨(some 28), .mv (.reg 0), none⟩,
      ⟨(some 29), .bin .quo (.reg 28) (.cst (.data (.int .i64 10))), none⟩,
      ⟨(some 30), .call 95 [(.reg 29)], none⟩,
      ⟨(some 31), .mv (.reg 4), none⟩,
      ⟨(some 32), .bin .add (.reg 30) (.reg 31), none⟩,
      ⟨(some 2), .mv (.reg 32), none⟩])
    .ret)
    .skip))
  (.seq (.region 7 [2] [⟨(some 33), .mv (.reg 4), none⟩,
    ⟨(some 2), .mv (.reg 33), none⟩])
  .ret)))))) }
/-- internal/stringslite.TrimPrefix -/
def F97 : IFunc := { nargs := 2, results := [.reg 4], body :=
  (.seq (.region 0 [0, 1] [⟨(some 4), .mv (.cst (.data (.str []))), none⟩])
  (.seq (.seq (.region 1 [0, 1, 7] [⟨(some 5), .mv (.reg 0), none⟩,
    ⟨(some 6), .mv (.reg 1), none⟩,
    ⟨(some 7), .call 105 [(.reg 5), (.reg 6)], none⟩])
  (.cond (.reg 7)
    (.seq (.region 2 [4] [⟨(some 8), .mv (.reg 0), none⟩,
      ⟨(some 9), .mv (.reg 1), none⟩,
      ⟨(some 10), .len true (.reg 9), none⟩,
      ⟨(some 11), .sub true 0 (.reg 8) (some (.reg 10)) none none, none⟩,
      ⟨(some 4), .mv (.reg 11), none⟩])
    .ret)
    .skip))
  (.seq (.region 3 [4] [⟨(some 12), .mv (.reg 0), none⟩,
    ⟨(some 4), .mv (.reg 12), none⟩])
  .ret))) }
/-- switchback/lex.Keyword -/
def F18 : IFunc := { nargs := 1, results := [.reg 2], body :=
  (.seq (.region 0 [0] [⟨(some 2), .mv (.cst (.data (.bool false))), none⟩])
  (.seq (.region 1 [0] [⟨(some 3), .mv (.reg 0), none⟩,
    ⟨(some 4), .call 45 [(.reg 3)], none⟩,
    ⟨(some 0), .mv (.reg 4), none⟩])
  (.seq (.region 2 [2] [⟨(some 5), .mv (.reg 0), none⟩,
    ⟨(some 6), .bin .neq (.reg 5) (.cst (.data (.str []))), none⟩,
    ⟨(some 7), .mv (.reg 6), none⟩,
    ⟨(some 8), .mv (.reg 0), (some (7, true))⟩,
    ⟨(some 9), .call 46 [(.reg 8), (.cst (.data (.str [32])))], (some (7, true))⟩,
    ⟨(some 10), .un .not (.reg 9), (some (7, true))⟩,
    ⟨(some 11), .pick (.reg 7) (.reg 10) (.cst (.data (.bool false))), none⟩,
    ⟨(some 12), .mv (.reg 11), none⟩,
    ⟨(some 13), .mv (.reg 0), (some (12, true))⟩,
    ⟨(some 14), .bin .add (.cst (.data (.str [32]))) (.reg 13), (some (12, true))⟩,
    ⟨(some 15), .bin .add (.reg 14) (.cst (.data (.str [32]))), (some (12, true))⟩,
    ⟨(some 16), .call 46 [(.cst (.data (.str [32, 99, 114, 101, 97, 116, 101, 32, 116, 97, 98, 108, 101, 32, 105, 110, 100, 101, 120, 32, 111, 110, 32, 100, 114, 111, 112, 32, 105, 110, 115, 101, 114, 116, 32, 105, 110, 116, 111, 32, 118, 97, 108, 117, 101, 115, 32, 117, 112, 100, 97, 116, 101, 32, 115, 101, 116, 32, 100, 101, 108, 101, 116, 101, 32, 102, 114, 111, 109, 32, 119, 104, 101, 114, 101, 32, 115, 101, 108, 101, 99, 116, 32, 106, 111, 105, 110, 32, 103, 114, 111, 117, 112, 32, 98, 121, 32, 111, 114, 100, 101, 114, 32, 100, 101, 115, 99, 32, 108, 105, 109, 105, 116, 32, 98, 101, 103, 105, 110, 32, 99, 111, 109, 109, 105, 116, 32, 114, 111, 108, 108, 98, 97, 99, 107, 32, 112, 114, 105, 109, 97, 114, 121, 32, 107, 101, 121, 32, 110, 111, 116, 32, 110, 117, 108, 108, 32, 105, 115, 32, 97, 110, 100, 32, 111, 114, 32, 116, 114, 117, 101, 32, 102, 97, 108, 115, 101, 32, 105, 110, 116, 32, 98, 111, 111, 108, 32, 116, 101, 120, 116, 32, 99, 111, 117, 110, 116, 32, 115, 117, 109, 32, 109, 105, 110, 32, 109, 97, 120, 32]))), (.reg 15)], (some (12, true))⟩,
    ⟨(some 17), .pick (.reg 12) (.reg 16) (.cst (.data (.bool false))), none⟩,
    ⟨(some 2), .mv (.reg 17), none⟩])
  .ret))) }
/-- slices.ContainsFunc[[]byte,byte] -/
def F47 : IFunc := { nargs := 2, results := [.reg 4], body :=
  (.seq (.region 0 [0, 1] [⟨(some 4), .mv (.cst (.data (.bool false))), none⟩])
  (.seq (.region 1 [4] [⟨(some 5), .mv (.reg 0), none⟩,
    ⟨(some 6), .mv (.reg 1), none⟩,
    ⟨(some 7), .call 81 [(.reg 5), (.reg 6)], none⟩,
    ⟨(some 8), .bin .geq (.reg 7) (.cst (.data (.int .i64 0))), none⟩,
    ⟨(some 4), .mv (.reg 8), none⟩])
  .ret)) }
/-- switchback/syntax.Name$1 -/
def F48 : IFunc := { nargs := 1, results := [.reg 2], body :=
  (.seq (.region 0 [0] [⟨(some 2), .mv (.cst (.data (.bool false))), none⟩])
  (.seq (.region 1 [2] [⟨(some 3), .mv (.reg 0), none⟩,
    ⟨(some 4), .bin .sub (.reg 3) (.cst (.data (.int .u8 97))), none⟩,
    ⟨(some 5), .bin .geq (.reg 4) (.cst (.data (.int .u8 26))), none⟩,
    ⟨(some 6), .mv (.reg 5), none⟩,
    ⟨(some 7), .mv (.reg 0), (some (6, true))⟩,
    ⟨(some 8), .bin .sub (.reg 7) (.cst (.data (.int .u8 48))), (some (6, true))⟩,
    ⟨(some 9), .bin .geq (.reg 8) (.cst (.data (.int .u8 10))), (some (6, true))⟩,
    ⟨(some 10), .pick (.reg 6) (.reg 9) (.cst (.data (.bool false))), none⟩,
    ⟨(some 11), .mv (.reg 10), none⟩,
    ⟨(some 12), .mv (.reg 0), (some (11, true))⟩,
    ⟨(some 13), .bin .neq (.reg 12) (.cst (.data (.int .u8 95))), (some (11, true))⟩,
    ⟨(some 14), .pick (.reg 11) (.reg 13) (.cst (.data (.bool false))), none⟩,
    ⟨(some 2), .mv (.reg 14), none⟩])
  .ret)) }
/-- slices.IndexFunc[[]switchback/api.Column,switchback/api.Column] -/
def F111 : IFunc := { nargs := 2, results := [.reg 4], body :=
  (.seq (.region 0 [0, 1] [⟨(some 4), .mv (.cst (.data (.int .i64 0))), none⟩])
  (.seq (.seq (.region 1 [0, 1, 7, 8] [⟨(some 6), .mv (.reg 0), none⟩,
    ⟨(some 7), .len false (.reg 6), none⟩,
    ⟨(some 8), .mv (.cst (.data (.int .i64 0))), none⟩])
  (.block 0 (.loop (.seq (.region 2 [0, 1, 7, 8, 9] [⟨(some 9), .bin .lss (.reg 8) (.reg 7), none⟩])
  (.seq (.cond (.reg 9)
    .skip
    (.exit 0))
  (.seq (.block 1 (.seq (.region 3 [0, 1, 5, 7, 8] [⟨(some 10), .mv (.reg 8), none⟩,
    ⟨(some 5), .mv (.reg 10), none⟩])
  (.seq (.region 4 [0, 1, 5, 7, 8, 16] [⟨(some 11), .mv (.reg 1), none⟩,
    ⟨(some 12), .mv (.reg 0), none⟩,
    ⟨(some 13), .mv (.reg 5), none⟩,
    ⟨(some 14), .iaddr 3 (.reg 12) (.reg 13), none⟩,
    ⟨(some 15), .load (some 3) (.reg 14), none⟩,
    ⟨(some 16), .callv (.reg 11) [(.reg 15)], none⟩])
  (.cond (.reg 16)
    (.seq (.region 5 [4] [⟨(some 17), .mv (.reg 5), none⟩,
      ⟨(some 4), .mv (.reg 17), none⟩])
    .ret)
    .skip))))
  (.region 6 [0, 1, 7, 8] [⟨(some 18), .bin .add (.reg 8) (.cst (.data (.int .i64 1))), none⟩,
    ⟨(some 8), .mv (.reg 18), none⟩])))))))
  (.seq (.region 7 [4] [⟨(some 4), .mv (.cst (.data (.int .i64 (-1)))), none⟩])
  .ret))) }
/-- slices.IndexFunc[[][]switchback/api.Expr,[]switchback/api.Expr] -/
def F112 : IFunc := { nargs := 2, results := [.reg 4], body :=
  (.seq (.region 0 [0, 1] [⟨(some 4), .mv (.cst (.data (.int .i64 0))), none⟩])
  (.seq (.seq (.region 1 [0, 1, 7, 8] [⟨(some 6), .mv (.reg 0), none⟩,
    ⟨(some 7), .len false (.reg 6), none⟩,
    ⟨(some 8), .mv (.cst (.data (.int .i64 0))), none⟩])
  (.block 0 (.loop (.seq (.region 2 [0, 1, 7, 8, 9] [⟨(some 9), .bin .lss (.reg 8) (.reg 7), none⟩])
  (.seq (.cond (.reg 9)
    .skip
    (.exit 0))
  (.seq (.block 1 (.seq (.region 3 [0, 1, 5, 7, 8] [⟨(some 10), .mv (.reg 8), none⟩,
    ⟨(some 5), .mv (.reg 10), none⟩])
  (.seq (.region 4 [0, 1, 5, 7, 8, 16] [⟨(some 11), .mv (.reg 1), none⟩,
    ⟨(some 12), .mv (.reg 0), none⟩,
    ⟨(some 13), .mv (.reg 5), none⟩,
    ⟨(some 14), .iaddr 1 (.reg 12) (.reg 13), none⟩,
    ⟨(some 15), .load none (.reg 14), none⟩,
    ⟨(some 16), .callv (.reg 11) [(.reg 15)], none⟩])
  (.cond (.reg 16)
    (.seq (.region 5 [4] [⟨(some 17), .mv (.reg 5), none⟩,
      ⟨(some 4), .mv (.reg 17), none⟩])
    .ret)
    .skip))))
  (.region 6 [0, 1, 7, 8] [⟨(some 18), .bin .add (.reg 8) (.cst (.data (.int .i64 1))), none⟩,
    ⟨(some 8), .mv (.reg 18), none⟩])))))))
  (.seq (.region 7 [4] [⟨(some 4), .mv (.cst (.data (.int .i64 (-1)))), none⟩])
  .ret))) }
/-- slices.IndexFunc[[]switchback/api.Set,switchback/api.Set] -/
def F113 : IFunc := { nargs := 2, results := [.reg 4], body :=
  (.seq (.region 0 [0, 1] [⟨(some 4), .mv (.cst (.data (.int .i64 0))), none⟩])
  (.seq (.seq (.region 1 [0, 1, 7, 8] [⟨(some 6), .mv (.reg 0), none⟩,
    ⟨(some 7), .len false (.reg 6), none⟩,
    ⟨(some 8), .mv (.cst (.data (.int .i64 0))), none⟩])
  (.block 0 (.loop (.seq (.region 2 [0, 1, 7, 8, 9] [⟨(some 9), .bin .lss (.reg 8) (.reg 7), none⟩])
  (.seq (.cond (.reg 9)
    .skip
    (.exit 0))
  (.seq (.block 1 (.seq (.region 3 [0, 1, 5, 7, 8] [⟨(some 10), .mv (.reg 8), none⟩,
    ⟨(some 5), .mv (.reg 10), none⟩])
  (.seq (.region 4 [0, 1, 5, 7, 8, 16] [⟨(some 11), .mv (.reg 1), none⟩,
    ⟨(some 12), .mv (.reg 0), none⟩,
    ⟨(some 13), .mv (.reg 5), none⟩,
    ⟨(some 14), .iaddr 8 (.reg 12) (.reg 13), none⟩,
    ⟨(some 15), .load (some 8) (.reg 14), none⟩,
    ⟨(some 16), .callv (.reg 11) [(.reg 15)], none⟩])
  (.cond (.reg 16)
    (.seq (.region 5 [4] [⟨(some 17), .mv (.reg 5), none⟩,
      ⟨(some 4), .mv (.reg 17), none⟩])
    .ret)
    .skip))))
  (.region 6 [0, 1, 7, 8] [⟨(some 18), .bin .add (.reg 8) (.cst (.data (.int .i64 1))), none⟩,
    ⟨(some 8), .mv (.reg 18), none⟩])))))))
  (.seq (.region 7 [4] [⟨(some 4), .mv (.cst (.data (.int .i64 (-1)))), none⟩])
  .ret))) }
/-- slices.IndexFunc[[]switchback/api.Order,switchback/api.Order] -/
def F114 : IFunc := { nargs := 2, results := [.reg 4], body :=
  (.seq (.region 0 [0, 1] [⟨(some 4), .mv (.cst (.data (.int .i64 0))), none⟩])
  (.seq (.seq (.region 1 [0, 1, 7, 8] [⟨(some 6), .mv (.reg 0), none⟩,
    ⟨(some 7), .len false (.reg 6), none⟩,
    ⟨(some 8), .mv (.cst (.data (.int .i64 0))), none⟩])
  (.block 0 (.loop (.seq (.region 2 [0, 1, 7, 8, 9] [⟨(some 9), .bin .lss (.reg 8) (.reg 7), none⟩])
  (.seq (.cond (.reg 9)
    .skip
    (.exit 0))
  (.seq (.block 1 (.seq (.region 3 [0, 1, 5, 7, 8] [⟨(some 10), .mv (.reg 8), none⟩,
    ⟨(some 5), .mv (.reg 10), none⟩])
  (.seq (.region 4 [0, 1, 5, 7, 8, 16] [⟨(some 11), .mv (.reg 1), none⟩,
    ⟨(some 12), .mv (.reg 0), none⟩,
    ⟨(some 13), .mv (.reg 5), none⟩,
    ⟨(some 14), .iaddr 2 (.reg 12) (.reg 13), none⟩,
    ⟨(some 15), .load (some 2) (.reg 14), none⟩,
    ⟨(some 16), .callv (.reg 11) [(.reg 15)], none⟩])
  (.cond (.reg 16)
    (.seq (.region 5 [4] [⟨(some 17), .mv (.reg 5), none⟩,
      ⟨(some 4), .mv (.reg 17), none⟩])
    .ret)
    .skip))))
  (.region 6 [0, 1, 7, 8] [⟨(some 18), .bin .add (.reg 8) (.cst (.data (.int .i64 1))), none⟩,
    ⟨(some 8), .mv (.reg 18), none⟩])))))))
  (.seq (.region 7 [4] [⟨(some 4), .mv (.cst (.data (.int .i64 (-1)))), none⟩])
  .ret))) }
/-- switchback/syntax.Args -/
def F115 : IFunc := { nargs := 1, results := [.reg 2, .reg 3], body :=
  (.seq (.region 0 [0] [⟨(some 2), .mv (.cst (.data (.int .i64 0))), none⟩,
    ⟨(some 3), .mv (.cst (.data (.bool false))), none⟩])
  (.seq (.seq (.region 1 [0, 4] [⟨(some 4), .mv (.reg 0), none⟩])
  (.block 0 (.seq (.seq (.region 2 [0, 4, 5] [⟨(some 6), .bin .eql (.reg 4) (.cst (.data (.int .i64 0))), none⟩,
    ⟨(some 5), .mv (.reg 6), none⟩])
  (.cond (.reg 5)
    .skip
    (.seq (.region 3 [0, 4, 5] [⟨(some 7), .bin .eql (.reg 4) (.cst (.data (.int .i64 1))), none⟩,
      ⟨(some 5), .mv (.reg 7), none⟩])
    (.cond (.reg 5)
      .skip
      (.region 4 [0, 4, 5] [⟨(some 8), .bin .eql (.reg 4) (.cst (.data (.int .i64 18))), none⟩,
        ⟨(some 5), .mv (.reg 8), none⟩])))))
  (.cond (.reg 5)
    (.seq (.region 5 [2, 3] [⟨(some 2), .mv (.cst (.data (.int .i64 0))), none⟩,
      ⟨(some 3), .mv (.cst (.data (.bool true))), none⟩])
    .ret)
    (.seq (.seq (.region 6 [0, 4, 9] [⟨(some 10), .bin .eql (.reg 4) (.cst (.data (.int .i64 2))), none⟩,
      ⟨(some 9), .mv (.reg 10), none⟩])
    (.cond (.reg 9)
      .skip
      (.seq (.region 7 [0, 4, 9] [⟨(some 11), .bin .eql (.reg 4) (.cst (.data (.int .i64 3))), none⟩,
        ⟨(some 9), .mv (.reg 11), none⟩])
      (.cond (.reg 9)
        .skip
        (.seq (.region 8 [0, 4, 9] [⟨(some 12), .bin .eql (.reg 4) (.cst (.data (.int .i64 16))), none⟩,
          ⟨(some 9), .mv (.reg 12), none⟩])
        (.cond (.reg 9)
          .skip
          (.seq (.region 9 [0, 4, 9] [⟨(some 13), .bin .eql (.reg 4) (.cst (.data (.int .i64 17))), none⟩,
            ⟨(some 9), .mv (.reg 13), none⟩])
          (.cond (.reg 9)
            .skip
            (.seq (.region 10 [0, 4, 9] [⟨(some 14), .bin .eql (.reg 4) (.cst (.data (.int .i64 19))), none⟩,
              ⟨(some 9), .mv (.reg 14), none⟩])
            (.cond (.reg 9)
              .skip
              (.seq (.region 11 [0, 4, 9] [⟨(some 15), .bin .eql (.reg 4) (.cst (.data (.int .i64 20))), none⟩,
                ⟨(some 9), .mv (.reg 15), none⟩])
              (.cond (.reg 9)
                .skip
                (.seq (.region 12 [0, 4, 9] [⟨(some 16), .bin .eql (.reg 4) (.cst (.data (.int .i64 21))), none⟩,
                  ⟨(some 9), .mv (.reg 16), none⟩])
                (.cond (.reg 9)
                  .skip
                  (.region 13 [0, 9] [⟨(some 17), .bin .eql (.reg 4) (.cst (.data (.int .i64 22))), none⟩,
                    ⟨(some 9), .mv (.reg 17), none⟩])))))))))))))))
    (.cond (.reg 9)
      (.seq (.region 14 [2, 3] [⟨(some 2), .mv (.cst (.data (.int .i64 1))), none⟩,
        ⟨(some 3), .mv (.cst (.data (.bool true))), none⟩])
      .ret)
      .skip))))))
  (.seq (.region 15 [2, 3] [⟨(some 18), .mv (.reg 0), none⟩,
    ⟨(some 19), .bin .geq (.reg 18) (.cst (.data (.int .i64 4))), none⟩,
    ⟨(some 20), .mv (.reg 19), none⟩,
    ⟨(some 21), .mv (.reg 0), (some (20, true))⟩,
    ⟨(some 22), .bin .lss (.reg 21) (.cst (.data (.int .i64 16))), (some (20, true))⟩,
    ⟨(some 23), .pick (.reg 20) (.reg 22) (.cst (.data (.bool false))), none⟩,
    ⟨(some 2), .mv (.cst (.data (.int .i64 2))), none⟩,
    ⟨(some 3), .mv (.reg 23), none⟩])
  .ret))) }
/-- switchback/value.Check -/
def F116 : IFunc := { nargs := 1, results := [.reg 2], body :=
  (.seq (.region 0 [1] [⟨(some 1), .box (.reg 0), none⟩,
    ⟨(some 2), .mv (.cst (.data (.int .i64 0))), none⟩])
  (.seq (.region 1 [1, 3] [⟨(some 3), .mv (.cst (.data (.bool false))), none⟩])
  (.seq (.seq (.region 2 [1, 3, 5] [⟨(some 4), .faddr 0 (.reg 1), none⟩,
    ⟨(some 5), .load none (.reg 4), none⟩])
  (.block 0 (.seq (.region 3 [1, 3, 5, 6] [⟨(some 7), .bin .eql (.reg 5) (.cst (.data (.int .i64 0))), none⟩,
    ⟨(some 6), .mv (.reg 7), none⟩])
  (.cond (.reg 6)
    (.region 4 [3] [⟨(some 8), .load (some 3) (.reg 1), none⟩,
      ⟨(some 9), .build [(.data (.int .i64 0)), (.data (.int .i64 0)), (.data (.str []))] [], none⟩,
      ⟨(some 10), .eqA false [.i, .i, .s] (.reg 8) (.reg 9), none⟩,
      ⟨(some 3), .mv (.reg 10), none⟩])
    (.seq (.region 5 [1, 3, 5, 11] [⟨(some 12), .bin .eql (.reg 5) (.cst (.data (.int .i64 1))), none⟩,
      ⟨(some 11), .mv (.reg 12), none⟩])
    (.cond (.reg 11)
      (.region 6 [3] [⟨(some 13), .faddr 2 (.reg 1), none⟩,
        ⟨(some 14), .load none (.reg 13), none⟩,
        ⟨(some 15), .bin .eql (.reg 14) (.cst (.data (.str []))), none⟩,
        ⟨(some 3), .mv (.reg 15), none⟩])
      (.seq (.region 7 [1, 3, 5, 16] [⟨(some 17), .bin .eql (.reg 5) (.cst (.data (.int .i64 2))), none⟩,
        ⟨(some 16), .mv (.reg 17), none⟩])
      (.cond (.reg 16)
        (.region 8 [3] [⟨(some 18), .faddr 2 (.reg 1), none⟩,
          ⟨(some 19), .load none (.reg 18), none⟩,
          ⟨(some 20), .bin .eql (.reg 19) (.cst (.data (.str []))), none⟩,
          ⟨(some 21), .mv (.reg 20), none⟩,
          ⟨(some 22), .faddr 1 (.reg 1), (some (21, true))⟩,
          ⟨(some 23), .load none (.reg 22), (some (21, true))⟩,
          ⟨(some 24), .cvInt .u64 (.reg 23), (some (21, true))⟩,
          ⟨(some 25), .bin .leq (.reg 24) (.cst (.data (.int .u64 1))), (some (21, true))⟩,
          ⟨(some 26), .pick (.reg 21) (.reg 25) (.cst (.data (.bool false))), none⟩,
          ⟨(some 3), .mv (.reg 26), none⟩])
        (.seq (.region 9 [1, 3, 27] [⟨(some 28), .bin .eql (.reg 5) (.cst (.data (.int .i64 3))), none⟩,
          ⟨(some 27), .mv (.reg 28), none⟩])
        (.cond (.reg 27)
          (.region 10 [3] [⟨(some 29), .faddr 1 (.reg 1), none⟩,
            ⟨(some 30), .load none (.reg 29), none⟩,
            ⟨(some 31), .bin .eql (.reg 30) (.cst (.data (.int .i64 0))), none⟩,
            ⟨(some 32), .mv (.reg 31), none⟩,
            ⟨(some 33), .faddr 2 (.reg 1), (some (32, true))⟩,
            ⟨(some 34), .load none (.reg 33), (some (32, true))⟩,
            ⟨(some 35), .len true (.reg 34), (some (32, true))⟩,
            ⟨(some 36), .bin .leq (.reg 35) (.cst (.data (.int .i64 64))), (some (32, true))⟩,
            ⟨(some 37), .pick (.reg 32) (.reg 36) (.cst (.data (.bool false))), none⟩,
            ⟨(some 3), .mv (.reg 37), none⟩])
          .skip))))))))))
  (.seq (.seq (.region 11 [39] [⟨(some 38), .mv (.reg 3), none⟩,
    ⟨(some 39), .un .not (.reg 38), none⟩])
  (.cond (.reg 39)
    (.seq (.region 12 [2] [⟨(some 2), .mv (.cst (.data (.int .i64 9))), none⟩])
    .ret)
    .skip))
  (.seq (.region 13 [2] [⟨(some 2), .mv (.cst (.data (.int .i64 0))), none⟩])
  .ret))))) }
/-- internal/stringslite.HasPrefix -/
def F105 : IFunc := { nargs := 2, results := [.reg 4], body :=
  (.seq (.region 0 [0, 1] [⟨(some 4), .mv (.cst (.data (.bool false))), none⟩])
  (.seq (.region 1 [4] [⟨(some 5), .mv (.reg 0), none⟩,
    ⟨(some 6), .len true (.reg 5), none⟩,
    ⟨(some 7), .mv (.reg 1), none⟩,
    ⟨(some 8), .len true (.reg 7), none⟩,
    ⟨(some 9), .bin .geq (.reg 6) (.reg 8), none⟩,
    ⟨(some 10), .mv (.reg 9), none⟩,
    ⟨(some 11), .mv (.reg 0), (some (10, true))⟩,
    ⟨(some 12), .mv (.reg 1), (some (10, true))⟩,
    ⟨(some 13), .len true (.reg 12), (some (10, true))⟩,
    ⟨(some 14), .sub true 0 (.reg 11) none (some (.reg 13)) none, (some (10, true))⟩,
    ⟨(some 15), .mv (.reg 1), (some (10, true))⟩,
    ⟨(some 16), .bin .eql (.reg 14) (.reg 15), (some (10, true))⟩,
    ⟨(some 17), .pick (.reg 10) (.reg 16) (.cst (.data (.bool false))), none⟩,
    ⟨(some 4), .mv (.reg 17), none⟩])
  .ret)) }
/-- switchback/lex.Lower -/
def F45 : IFunc := { nargs := 1, results := [.reg 2], body :=
  (.seq (.region 0 [0] [⟨(some 2), .mv (.cst (.data (.str []))), none⟩])
  (.seq (.region 1 [3, 4000000000] [⟨(some 6), .mv (.reg 0), none⟩,
    ⟨(some 7), .cvBytesM (.reg 6), none⟩,
    ⟨(some 3), .mv (.reg 7), none⟩])
  (.seq (.seq (.region 2 [3, 8, 9, 10] [⟨(some 8), .mv (.reg 3), none⟩,
    ⟨(some 9), .len false (.reg 8), none⟩,
    ⟨(some 10), .mv (.cst (.data (.int .i64 0))), none⟩])
  (.block 0 (.loop (.seq (.region 3 [3, 8, 9, 10, 11] [⟨(some 11), .bin .lss (.reg 10) (.reg 9), none⟩])
  (.seq (.cond (.reg 11)
    .skip
    (.exit 0))
  (.seq (.block 1 (.seq (.region 4 [3, 4, 5, 8, 9, 10] [⟨(some 12), .mv (.reg 10), none⟩,
    ⟨(some 13), .iaddr 1 (.reg 8) (.reg 10), none⟩,
    ⟨(some 14), .load none (.reg 13), none⟩,
    ⟨(some 4), .mv (.reg 12), none⟩,
    ⟨(some 5), .mv (.reg 14), none⟩])
  (.seq (.region 5 [3, 4, 5, 8, 9, 10, 17] [⟨(some 15), .mv (.reg 5), none⟩,
    ⟨(some 16), .bin .sub (.reg 15) (.cst (.data (.int .u8 65))), none⟩,
    ⟨(some 17), .bin .lss (.reg 16) (.cst (.data (.int .u8 26))), none⟩])
  (.cond (.reg 17)
    (.region 6 [3, 8, 9, 10] [⟨(some 18), .mv (.reg 3), none⟩,
      ⟨(some 19), .mv (.reg 4), none⟩,
      ⟨(some 20), .mv (.reg 5), none⟩,
      ⟨(some 21), .bin .or (.reg 20) (.cst (.data (.int .u8 32))), none⟩,
      ⟨(some 22), .iaddr 1 (.reg 18) (.reg 19), none⟩,
      ⟨none, .store 1 (.reg 22) (.reg 21), none⟩])
    .skip))))
  (.region 7 [3, 8, 9, 10] [⟨(some 23), .bin .add (.reg 10) (.cst (.data (.int .i64 1))), none⟩,
    ⟨(some 10), .mv (.reg 23), none⟩])))))))
  (.seq (.region 8 [2, 4000000000] [⟨(some 24), .mv (.reg 3), none⟩,
    ⟨(some 25), .cvStr (.reg 24), none⟩,
    ⟨(some 2), .mv (.reg 25), none⟩])
  .ret)))) }
/-- slices.IndexFunc[[]byte,byte] -/
def F81 : IFunc := { nargs := 2, results := [.reg 4], body :=
  (.seq (.region 0 [0, 1] [⟨(some 4), .mv (.cst (.data (.int .i64 0))), none⟩])
  (.seq (.seq (.region 1 [0, 1, 7, 8] [⟨(some 6), .mv (.reg 0), none⟩,
    ⟨(some 7), .len false (.reg 6), none⟩,
    ⟨(some 8), .mv (.cst (.data (.int .i64 0))), none⟩])
  (.block 0 (.loop (.seq (.region 2 [0, 1, 7, 8, 9] [⟨(some 9), .bin .lss (.reg 8) (.reg 7), none⟩])
  (.seq (.cond (.reg 9)
    .skip
    (.exit 0))
  (.seq (.block 1 (.seq (.region 3 [0, 1, 5, 7, 8] [⟨(some 10), .mv (.reg 8), none⟩,
    ⟨(some 5), .mv (.reg 10), none⟩])
  (.seq (.region 4 [0, 1, 5, 7, 8, 16] [⟨(some 11), .mv (.reg 1), none⟩,
    ⟨(some 12), .mv (.reg 0), none⟩,
    ⟨(some 13), .mv (.reg 5), none⟩,
    ⟨(some 14), .iaddr 1 (.reg 12) (.reg 13), none⟩,
    ⟨(some 15), .load none (.reg 14), none⟩,
    ⟨(some 16), .callv (.reg 11) [(.reg 15)], none⟩])
  (.cond (.reg 16)
    (.seq (.region 5 [4] [⟨(some 17), .mv (.reg 5), none⟩,
      ⟨(some 4), .mv (.reg 17), none⟩])
    .ret)
    .skip))))
  (.region 6 [0, 1, 7, 8] [⟨(some 18), .bin .add (.reg 8) (.cst (.data (.int .i64 1))), none⟩,
    ⟨(some 8), .mv (.reg 18), none⟩])))))))
  (.seq (.region 7 [4] [⟨(some 4), .mv (.cst (.data (.int .i64 (-1)))), none⟩])
  .ret))) }
/-- slices.Clone[[][]switchback/api.Expr,[]switchback/api.Expr] -/
def F92 : IFunc := { nargs := 1, results := [.reg 2], body :=
  (.seq (.region 0 [0] [⟨(some 2), .mv (.cst (.full [])), none⟩])
  (.seq (.seq (.region 1 [0, 4] [⟨(some 3), .mv (.reg 0), none⟩,
    ⟨(some 4), .eqL false (.reg 3), none⟩])
  (.cond (.reg 4)
    (.seq (.region 2 [2] [⟨(some 2), .mv (.cst (.full [])), none⟩])
    .ret)
    .skip))
  (.seq (.region 3 [2] [⟨(some 5), .slit 1 [], none⟩,
    ⟨(some 6), .mv (.reg 0), none⟩,
    ⟨(some 7), .append 24 1 24 (.reg 5) (.reg 6), none⟩,
    ⟨(some 2), .mv (.reg 7), none⟩])
  .ret))) }
end Go.Proofs.YtkcbomohgbafoaaDoor
