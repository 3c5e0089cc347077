/- Texts of this claim, put together (KCode, KTbl, AEv5, AEv6, AArg): lemmas towards the statement; no conditions of their own. -/
import Derived.Test.YtccepmhhilhajaaLb2
import Derived.Test.YtccepmhhilhajaaChecked
import Derived.ChangeArms
import Derived.ProofKit
/- The code of the functions that are reached, as code of the machine A. -/
set_option linter.unusedVariables false
set_option maxRecDepth 100000
namespace Go.Proofs.Ytccepmhhilhajaa.K
open Go Go.A

/- gosem.cut.init -/
def c2 : ACode :=
  .reg [⟨(some 0), .call (.st 1) [], none⟩]
def r2 : List ARes := []
/- archivolt/archivoltlaw02.SumsRolls -/
def c3 : ACode :=
  .seq (.reg [⟨(some 7), .n (.box (.t 2)), none⟩, ⟨(some 10), .p (.mv (.c (.bool false))), none⟩]) <|
  .seq (.seq (.reg [⟨(some 19), .p (.mv (.t 0)), none⟩, ⟨(some 20), .p (.lenS (.t 19)), none⟩, ⟨(some 21), .p (.bin .gtr (.t 20) (.c (i64 600))), none⟩]) <|
  .cond (.t 21) (
    .seq (.reg [⟨(some 22), .call (.st 14) [], none⟩, ⟨(some 10), .p (.mv (.t 22)), none⟩]) <|
    .ret) (
    .skip)) <|
  .seq (.keep [0, 1, 3, 4, 7]) <|
  .seq (.reg [⟨(some 24), .r (.ldN 3 (.t 7)), none⟩, ⟨(some 25), .p (.mv (.t 3)), none⟩, ⟨(some 26), .p (.mv (.t 4)), none⟩, ⟨(some 27), .call (.st 15) [(.t 24), (.t 25), (.t 26)], none⟩, ⟨(some 23), .p (.mv (.t 27)), none⟩, ⟨(some 28), .p (.ext (.t 23) 0), none⟩, ⟨(some 29), .p (.ext (.t 23) 1), none⟩, ⟨(some 11), .n (.alloc [(u32 0), (u32 0), (i64 0)]), none⟩, ⟨none, .l (.stN 3 (.t 11) (.t 28)), none⟩, ⟨(some 12), .p (.mv (.t 29)), none⟩]) <|
  .seq (.keep [0, 1, 3, 4, 7, 11, 12]) <|
  .seq (.reg [⟨(some 31), .r (.ldN 3 (.t 7)), none⟩, ⟨(some 32), .p (.mv (.t 3)), none⟩, ⟨(some 33), .p (.mv (.t 4)), none⟩, ⟨(some 34), .call (.st 16) [(.t 31), (.t 32), (.t 33)], none⟩, ⟨(some 30), .p (.mv (.t 34)), none⟩, ⟨(some 35), .p (.ext (.t 30) 0), none⟩, ⟨(some 36), .p (.ext (.t 30) 1), none⟩, ⟨(some 13), .n (.alloc [(u32 0), (u32 0), (i64 0)]), none⟩, ⟨none, .l (.stN 3 (.t 13) (.t 35)), none⟩, ⟨(some 14), .p (.mv (.t 36)), none⟩]) <|
  .seq (.keep [0, 1, 7, 11, 12, 13, 14]) <|
  .seq (.reg [⟨(some 38), .p (.mv (.t 0)), none⟩, ⟨(some 39), .p (.mv (.t 1)), none⟩, ⟨(some 40), .call (.st 17) [(.t 38), (.t 39)], none⟩, ⟨(some 37), .p (.mv (.t 40)), none⟩, ⟨(some 41), .p (.ext (.t 37) 0), none⟩, ⟨(some 42), .p (.ext (.t 37) 1), none⟩, ⟨(some 15), .p (.mv (.t 41)), none⟩, ⟨(some 16), .p (.mv (.t 42)), none⟩]) <|
  .seq (.keep [0, 1, 7, 11, 12, 13, 14, 15, 16]) <|
  .seq (.reg [⟨(some 44), .p (.mv (.t 0)), none⟩, ⟨(some 45), .p (.mv (.t 1)), none⟩, ⟨(some 46), .call (.st 18) [(.t 44), (.t 45)], none⟩, ⟨(some 43), .p (.mv (.t 46)), none⟩, ⟨(some 47), .p (.ext (.t 43) 0), none⟩, ⟨(some 48), .p (.ext (.t 43) 1), none⟩, ⟨(some 17), .p (.mv (.t 47)), none⟩, ⟨(some 18), .p (.mv (.t 48)), none⟩]) <|
  .seq (.keep [0, 7, 11, 12, 13, 14, 15, 16, 17, 18]) <|
  .seq (.drw [(⟨(some 49), .call (.st 14) [], none⟩, [], true), (⟨(some 50), .p (.mv (.t 49)), none⟩, [], true), (⟨(some 51), .p (.mv (.t 0)), some (50, true)⟩, [], false), (⟨(some 52), .call (.st 19) [(.t 51)], some (50, true)⟩, [], false), (⟨(some 53), .p (.mv (.t 0)), some (50, true)⟩, [1], false), (⟨(some 54), .call (.st 20) [(.t 53)], some (50, true)⟩, [], true), (⟨(some 55), .p (.eqv false (.flat [.int, .int, .int]) (.t 52) (.t 54)), some (50, true)⟩, [], true), (⟨(some 56), .p (.pick (.t 50) (.t 55) (.c (.bool false))), none⟩, [], true), (⟨(some 57), .p (.mv (.t 56)), none⟩, [], true), (⟨(some 58), .r (.ldN 3 (.t 11)), some (57, true)⟩, [], false), (⟨(some 59), .r (.ldN 3 (.t 13)), some (57, true)⟩, [], false), (⟨(some 60), .p (.eqv false (.flat [.int, .int, .int]) (.t 58) (.t 59)), some (57, true)⟩, [], true), (⟨(some 61), .p (.pick (.t 57) (.t 60) (.c (.bool false))), none⟩, [], true), (⟨(some 62), .p (.mv (.t 61)), none⟩, [], true), (⟨(some 63), .p (.mv (.t 12)), some (62, true)⟩, [], false), (⟨(some 64), .p (.mv (.t 14)), some (62, true)⟩, [], false), (⟨(some 65), .p (.bin .eql (.t 63) (.t 64)), some (62, true)⟩, [], true), (⟨(some 66), .p (.pick (.t 62) (.t 65) (.c (.bool false))), none⟩, [], true), (⟨(some 67), .p (.mv (.t 66)), none⟩, [], true), (⟨(some 68), .r (.ldN 3 (.t 7)), some (67, true)⟩, [], false), (⟨(some 69), .call (.st 21) [(.t 68)], some (67, true)⟩, [], false), (⟨(some 70), .r (.ldN 3 (.t 7)), some (67, true)⟩, [3], false), (⟨(some 71), .call (.st 22) [(.t 70)], some (67, true)⟩, [], true), (⟨(some 72), .p (.bin .eql (.t 69) (.t 71)), some (67, true)⟩, [], true), (⟨(some 73), .p (.pick (.t 67) (.t 72) (.c (.bool false))), none⟩, [], true), (⟨(some 74), .p (.mv (.t 73)), none⟩, [], true), (⟨(some 75), .p (.mv (.t 15)), some (74, true)⟩, [], false), (⟨(some 76), .p (.mv (.t 17)), some (74, true)⟩, [], false), (⟨(some 77), .call (.st 23) [(.t 75), (.t 76)], some (74, true)⟩, [], true), (⟨(some 78), .p (.pick (.t 74) (.t 77) (.c (.bool false))), none⟩, [], true), (⟨(some 79), .p (.mv (.t 78)), none⟩, [], true), (⟨(some 80), .p (.mv (.t 16)), some (79, true)⟩, [], false), (⟨(some 81), .p (.mv (.t 18)), some (79, true)⟩, [], false), (⟨(some 82), .p (.bin .eql (.t 80) (.t 81)), some (79, true)⟩, [], true), (⟨(some 83), .p (.pick (.t 79) (.t 82) (.c (.bool false))), none⟩, [], true), (⟨(some 10), .p (.mv (.t 83)), none⟩, [], true)]) <|
  .ret
def r3 : List ARes := [.t 10]
/- archivolt/archivoltlaw02.SumsTrees -/
def c4 : ACode :=
  .seq (.reg [⟨(some 11), .n (.box (.t 5)), none⟩, ⟨(some 12), .p (.mv (.c (.bool false))), none⟩]) <|
  .seq (.seq (.reg [⟨(some 23), .p (.mv (.t 0)), none⟩, ⟨(some 24), .call (.st 24) [(.t 23)], none⟩, ⟨(some 25), .p (.un .not (.t 24)), none⟩, ⟨(some 26), .p (.mv (.t 25)), none⟩, ⟨(some 27), .p (.mv (.t 3)), some (26, false)⟩, ⟨(some 28), .p (.lenS (.t 27)), some (26, false)⟩, ⟨(some 29), .p (.bin .gtr (.t 28) (.c (i64 1000))), some (26, false)⟩, ⟨(some 30), .p (.pick (.t 26) (.c (.bool true)) (.t 29)), none⟩, ⟨(some 31), .p (.mv (.t 30)), none⟩, ⟨(some 32), .p (.mv (.t 4)), some (31, false)⟩, ⟨(some 33), .p (.lenS (.t 32)), some (31, false)⟩, ⟨(some 34), .p (.bin .gtr (.t 33) (.c (i64 50))), some (31, false)⟩, ⟨(some 35), .p (.pick (.t 31) (.c (.bool true)) (.t 34)), none⟩]) <|
  .seq (.keep [0, 1, 2, 3, 4, 11, 35]) <|
  .cond (.t 35) (
    .seq (.reg [⟨(some 36), .call (.st 14) [], none⟩, ⟨(some 12), .p (.mv (.t 36)), none⟩]) <|
    .ret) (
    .skip)) <|
  .seq (.keep [0, 1, 2, 3, 4, 11]) <|
  .seq (.reg [⟨(some 38), .p (.mv (.t 0)), none⟩, ⟨(some 39), .call (.st 25) [(.t 38)], none⟩, ⟨(some 37), .p (.mv (.t 39)), none⟩, ⟨(some 40), .p (.ext (.t 37) 0), none⟩, ⟨(some 41), .p (.ext (.t 37) 1), none⟩, ⟨(some 13), .n (.alloc (List.replicate 16 (u8 0))), none⟩, ⟨none, .l (.stN 16 (.t 13) (.t 40)), none⟩, ⟨(some 14), .p (.mv (.t 41)), none⟩]) <|
  .seq (.keep [0, 1, 2, 3, 4, 11, 13, 14]) <|
  .seq (.reg [⟨(some 43), .p (.mv (.t 0)), none⟩, ⟨(some 44), .call (.st 26) [(.t 43)], none⟩, ⟨(some 42), .p (.mv (.t 44)), none⟩, ⟨(some 45), .p (.ext (.t 42) 0), none⟩, ⟨(some 46), .p (.ext (.t 42) 1), none⟩, ⟨(some 15), .n (.alloc (List.replicate 16 (u8 0))), none⟩, ⟨none, .l (.stN 16 (.t 15) (.t 45)), none⟩, ⟨(some 16), .p (.mv (.t 46)), none⟩]) <|
  .seq (.keep [0, 1, 2, 3, 4, 11, 13, 14, 15, 16]) <|
  .seq (.reg [⟨(some 48), .p (.mv (.t 0)), none⟩, ⟨(some 49), .p (.mv (.t 1)), none⟩, ⟨(some 50), .call (.st 27) [(.t 48), (.t 49)], none⟩, ⟨(some 47), .p (.mv (.t 50)), none⟩, ⟨(some 51), .p (.ext (.t 47) 0), none⟩, ⟨(some 52), .p (.ext (.t 47) 1), none⟩, ⟨(some 17), .p (.mv (.t 51)), none⟩, ⟨(some 18), .p (.mv (.t 52)), none⟩]) <|
  .seq (.keep [0, 1, 2, 3, 4, 11, 13, 14, 15, 16, 17, 18]) <|
  .seq (.reg [⟨(some 54), .p (.mv (.t 0)), none⟩, ⟨(some 55), .p (.mv (.t 1)), none⟩, ⟨(some 56), .call (.st 28) [(.t 54), (.t 55)], none⟩, ⟨(some 53), .p (.mv (.t 56)), none⟩, ⟨(some 57), .p (.ext (.t 53) 0), none⟩, ⟨(some 58), .p (.ext (.t 53) 1), none⟩, ⟨(some 19), .p (.mv (.t 57)), none⟩, ⟨(some 20), .p (.mv (.t 58)), none⟩]) <|
  .seq (.keep [1, 2, 3, 4, 11, 13, 14, 15, 16, 17, 18, 19, 20]) <|
  .seq (.seq (.reg [⟨(some 59), .r (.ldN 16 (.t 13)), none⟩, ⟨(some 60), .r (.ldN 16 (.t 15)), none⟩, ⟨(some 61), .p (.eqv true (.flat [.int, .int, .int, .int, .int, .int, .int, .int, .int, .int, .int, .int, .int, .int, .int, .int]) (.t 59) (.t 60)), none⟩, ⟨(some 62), .p (.mv (.t 61)), none⟩, ⟨(some 63), .p (.mv (.t 14)), some (62, false)⟩, ⟨(some 64), .p (.mv (.t 16)), some (62, false)⟩, ⟨(some 65), .p (.bin .neq (.t 63) (.t 64)), some (62, false)⟩, ⟨(some 66), .p (.pick (.t 62) (.c (.bool true)) (.t 65)), none⟩, ⟨(some 67), .p (.mv (.t 66)), none⟩, ⟨(some 68), .p (.mv (.t 17)), some (67, false)⟩, ⟨(some 69), .p (.mv (.t 19)), some (67, false)⟩, ⟨(some 70), .call (.st 29) [(.t 68), (.t 69)], some (67, false)⟩, ⟨(some 71), .p (.un .not (.t 70)), some (67, false)⟩, ⟨(some 72), .p (.pick (.t 67) (.c (.bool true)) (.t 71)), none⟩, ⟨(some 73), .p (.mv (.t 72)), none⟩, ⟨(some 74), .p (.mv (.t 18)), some (73, false)⟩, ⟨(some 75), .p (.mv (.t 20)), some (73, false)⟩, ⟨(some 76), .p (.bin .neq (.t 74) (.t 75)), some (73, false)⟩, ⟨(some 77), .p (.pick (.t 73) (.c (.bool true)) (.t 76)), none⟩]) <|
  .seq (.keep [1, 2, 3, 4, 11, 77]) <|
  .cond (.t 77) (
    .seq (.reg [⟨(some 12), .p (.mv (.c (.bool false))), none⟩]) <|
    .ret) (
    .skip)) <|
  .seq (.keep [1, 2, 3, 4, 11]) <|
  .seq (.reg [⟨(some 79), .p (.mv (.t 2)), none⟩, ⟨(some 80), .p (.mv (.t 1)), none⟩, ⟨(some 81), .p (.mv (.t 3)), none⟩, ⟨(some 82), .p (.mv (.t 4)), none⟩, ⟨(some 83), .call (.st 30) [(.t 79), (.t 80), (.t 81), (.t 82)], none⟩, ⟨(some 78), .p (.mv (.t 83)), none⟩, ⟨(some 84), .p (.ext (.t 78) 0), none⟩, ⟨(some 85), .p (.ext (.t 78) 1), none⟩, ⟨(some 21), .n (.alloc (List.replicate 16 (u8 0))), none⟩, ⟨none, .l (.stN 16 (.t 21) (.t 84)), none⟩, ⟨(some 14), .p (.mv (.t 85)), none⟩]) <|
  .seq (.keep [1, 2, 3, 4, 11, 14, 21]) <|
  .seq (.reg [⟨(some 87), .p (.mv (.t 2)), none⟩, ⟨(some 88), .p (.mv (.t 1)), none⟩, ⟨(some 89), .p (.mv (.t 3)), none⟩, ⟨(some 90), .p (.mv (.t 4)), none⟩, ⟨(some 91), .call (.st 31) [(.t 87), (.t 88), (.t 89), (.t 90)], none⟩, ⟨(some 86), .p (.mv (.t 91)), none⟩, ⟨(some 92), .p (.ext (.t 86) 0), none⟩, ⟨(some 93), .p (.ext (.t 86) 1), none⟩, ⟨(some 22), .n (.alloc (List.replicate 16 (u8 0))), none⟩, ⟨none, .l (.stN 16 (.t 22) (.t 92)), none⟩, ⟨(some 16), .p (.mv (.t 93)), none⟩]) <|
  .seq (.keep [1, 2, 3, 4, 11, 14, 16, 21, 22]) <|
  .seq (.drw [(⟨(some 94), .call (.st 14) [], none⟩, [], true), (⟨(some 95), .p (.mv (.t 94)), none⟩, [], true), (⟨(some 96), .r (.ldN 16 (.t 21)), some (95, true)⟩, [], false), (⟨(some 97), .r (.ldN 16 (.t 22)), some (95, true)⟩, [], false), (⟨(some 98), .p (.eqv false (.flat [.int, .int, .int, .int, .int, .int, .int, .int, .int, .int, .int, .int, .int, .int, .int, .int]) (.t 96) (.t 97)), some (95, true)⟩, [], true), (⟨(some 99), .p (.pick (.t 95) (.t 98) (.c (.bool false))), none⟩, [], true), (⟨(some 100), .p (.mv (.t 99)), none⟩, [], true), (⟨(some 101), .p (.mv (.t 14)), some (100, true)⟩, [], false), (⟨(some 102), .p (.mv (.t 16)), some (100, true)⟩, [], false), (⟨(some 103), .p (.bin .eql (.t 101) (.t 102)), some (100, true)⟩, [], true), (⟨(some 104), .p (.pick (.t 100) (.t 103) (.c (.bool false))), none⟩, [], true), (⟨(some 105), .p (.mv (.t 104)), none⟩, [], true), (⟨(some 106), .r (.ldN 16 (.t 11)), some (105, true)⟩, [], false), (⟨(some 107), .p (.mv (.t 2)), some (105, true)⟩, [], false), (⟨(some 108), .p (.mv (.t 1)), some (105, true)⟩, [], false), (⟨(some 109), .p (.mv (.t 3)), some (105, true)⟩, [], false), (⟨(some 110), .p (.mv (.t 4)), some (105, true)⟩, [], false), (⟨(some 111), .call (.st 32) [(.t 106), (.t 107), (.t 108), (.t 109), (.t 110)], some (105, true)⟩, [], false), (⟨(some 112), .r (.ldN 16 (.t 11)), some (105, true)⟩, [1], false), (⟨(some 113), .p (.mv (.t 2)), some (105, true)⟩, [1], false), (⟨(some 114), .p (.mv (.t 1)), some (105, true)⟩, [1], false), (⟨(some 115), .p (.mv (.t 3)), some (105, true)⟩, [1], false), (⟨(some 116), .p (.mv (.t 4)), some (105, true)⟩, [1], false), (⟨(some 117), .call (.st 33) [(.t 112), (.t 113), (.t 114), (.t 115), (.t 116)], some (105, true)⟩, [], true), (⟨(some 118), .p (.bin .eql (.t 111) (.t 117)), some (105, true)⟩, [], true), (⟨(some 119), .p (.pick (.t 105) (.t 118) (.c (.bool false))), none⟩, [], true), (⟨(some 120), .p (.mv (.t 119)), none⟩, [], true), (⟨(some 121), .r (.ldN 16 (.t 22)), some (120, true)⟩, [], false), (⟨(some 122), .p (.mv (.t 2)), some (120, true)⟩, [], false), (⟨(some 123), .p (.mv (.t 1)), some (120, true)⟩, [], false), (⟨(some 124), .p (.mv (.t 3)), some (120, true)⟩, [], false), (⟨(some 125), .p (.mv (.t 4)), some (120, true)⟩, [], false), (⟨(some 126), .call (.st 32) [(.t 121), (.t 122), (.t 123), (.t 124), (.t 125)], some (120, true)⟩, [], false), (⟨(some 127), .p (.mv (.t 16)), some (120, true)⟩, [3], false), (⟨(some 128), .p (.bin .eql (.t 126) (.t 127)), some (120, true)⟩, [], true), (⟨(some 129), .p (.pick (.t 120) (.t 128) (.c (.bool false))), none⟩, [], true), (⟨(some 12), .p (.mv (.t 129)), none⟩, [], true)]) <|
  .ret
def r4 : List ARes := [.t 12]
/- archivolt/archivoltlaw02.SumsBursts -/
def c5_0 : ACode :=
  .seq (.seq (.reg [⟨(some 37), .p (.mv (.t 8)), none⟩, ⟨(some 38), .p (.bin .lss (.t 37) (.c (i64 4))), none⟩]) <|
  .cond (.t 38) (
    .skip) (
    .exit 0)) <|
  .seq (.keep [0, 1, 5, 7, 8]) <|
  .seq (.blk 1 (
    .drw [(⟨(some 41), .p (.mv (.t 7)), none⟩, [], false), (⟨(some 42), .p (.mv (.t 1)), none⟩, [], false), (⟨(some 43), .p (.mv (.t 8)), none⟩, [], false), (⟨(some 44), .p (.bin .add (.t 42) (.t 43)), none⟩, [], false), (⟨(some 45), .p (.mv (.t 7)), none⟩, [], false), (⟨(some 46), .p (.mv (.t 1)), none⟩, [], false), (⟨(some 47), .p (.mv (.t 8)), none⟩, [], false), (⟨(some 48), .p (.bin .add (.t 46) (.t 47)), none⟩, [], false), (⟨(some 49), .p (.idxS 1 (.t 45) (.t 48)), none⟩, [], false), (⟨(some 50), .r (.ld (.t 49)), none⟩, [], false), (⟨(some 51), .p (.mv (.t 8)), none⟩, [], false), (⟨(some 52), .p (.idxA 4 1 (.t 5) (.t 51)), none⟩, [], false), (⟨(some 53), .r (.ld (.t 52)), none⟩, [], false), (⟨(some 54), .p (.bin .xor (.t 50) (.t 53)), none⟩, [], false), (⟨(some 55), .p (.idxS 1 (.t 41) (.t 44)), none⟩, [], true), (⟨none, .l (.st (.t 55) (.t 54)), none⟩, [], true)])) <|
  .seq (.keep [0, 1, 5, 7, 8]) <|
  .reg [⟨(some 39), .p (.mv (.t 8)), none⟩, ⟨(some 40), .p (.bin .add (.t 39) (.c (i64 1))), none⟩, ⟨(some 8), .p (.mv (.t 40)), none⟩]
def c5 : ACode :=
  .seq (.reg [⟨(some 5), .n (.box (.t 2)), none⟩, ⟨(some 6), .p (.mv (.c (.bool false))), none⟩]) <|
  .seq (.seq (.reg [⟨(some 9), .p (.mv (.t 0)), none⟩, ⟨(some 10), .p (.lenS (.t 9)), none⟩, ⟨(some 11), .p (.bin .gtr (.t 10) (.c (i64 3000))), none⟩, ⟨(some 12), .p (.mv (.t 11)), none⟩, ⟨(some 13), .p (.mv (.t 0)), some (12, false)⟩, ⟨(some 14), .p (.lenS (.t 13)), some (12, false)⟩, ⟨(some 15), .p (.bin .lss (.t 14) (.c (i64 4))), some (12, false)⟩, ⟨(some 16), .p (.pick (.t 12) (.c (.bool true)) (.t 15)), none⟩, ⟨(some 17), .p (.mv (.t 16)), none⟩, ⟨(some 18), .p (.mv (.t 1)), some (17, false)⟩, ⟨(some 19), .p (.bin .lss (.t 18) (.c (i64 0))), some (17, false)⟩, ⟨(some 20), .p (.pick (.t 17) (.c (.bool true)) (.t 19)), none⟩, ⟨(some 21), .p (.mv (.t 20)), none⟩, ⟨(some 22), .p (.mv (.t 1)), some (21, false)⟩, ⟨(some 23), .p (.mv (.t 0)), some (21, false)⟩, ⟨(some 24), .p (.lenS (.t 23)), some (21, false)⟩, ⟨(some 25), .p (.bin .sub (.t 24) (.c (i64 4))), some (21, false)⟩, ⟨(some 26), .p (.bin .gtr (.t 22) (.t 25)), some (21, false)⟩, ⟨(some 27), .p (.pick (.t 21) (.c (.bool true)) (.t 26)), none⟩, ⟨(some 28), .p (.mv (.t 27)), none⟩, ⟨(some 29), .r (.ldN 4 (.t 5)), some (28, false)⟩, ⟨(some 30), .p (.build [(u8 0), (u8 0), (u8 0), (u8 0)] []), some (28, false)⟩, ⟨(some 31), .p (.eqv false (.flat [.int, .int, .int, .int]) (.t 29) (.t 30)), some (28, false)⟩, ⟨(some 32), .p (.pick (.t 28) (.c (.bool true)) (.t 31)), none⟩]) <|
  .seq (.keep [0, 1, 5, 32]) <|
  .cond (.t 32) (
    .seq (.reg [⟨(some 33), .call (.st 14) [], none⟩, ⟨(some 6), .p (.mv (.t 33)), none⟩]) <|
    .ret) (
    .skip)) <|
  .seq (.keep [0, 1, 5]) <|
  .seq (.reg [⟨(some 7), .p (.mv (.c .nils)), none⟩]) <|
  .seq (.reg [⟨(some 34), .p (.mv (.t 7)), none⟩, ⟨(some 35), .p (.mv (.t 0)), none⟩, ⟨(some 36), .l (.app 1 1 (.t 34) (.t 35)), none⟩, ⟨(some 7), .p (.mv (.t 36)), none⟩]) <|
  .seq (.seq (.reg [⟨(some 8), .p (.mv (.c (i64 0))), none⟩]) <|
  .blk 0 (
    .loop (.seq (.keep [0, 1, 5, 7, 8]) c5_0))) <|
  .seq (.keep [0, 7]) <|
  .seq (.reg [⟨(some 56), .call (.st 14) [], none⟩, ⟨(some 57), .p (.mv (.t 56)), none⟩, ⟨(some 58), .p (.mv (.t 0)), some (57, true)⟩, ⟨(some 59), .call (.st 34) [(.t 58)], some (57, true)⟩, ⟨(some 60), .p (.mv (.t 7)), some (57, true)⟩, ⟨(some 61), .call (.st 34) [(.t 60)], some (57, true)⟩, ⟨(some 62), .p (.bin .neq (.t 59) (.t 61)), some (57, true)⟩, ⟨(some 63), .p (.pick (.t 57) (.t 62) (.c (.bool false))), none⟩, ⟨(some 6), .p (.mv (.t 63)), none⟩]) <|
  .ret
def r5 : List ARes := [.t 6]
/- archivolt/archivoltlaw02.SumsSlides -/
def c6_0 : ACode :=
  .seq (.seq (.reg [⟨(some 47), .p (.mv (.t 8)), none⟩, ⟨(some 48), .p (.mv (.t 1)), none⟩, ⟨(some 49), .p (.bin .add (.t 47) (.t 48)), none⟩, ⟨(some 50), .p (.mv (.t 0)), none⟩, ⟨(some 51), .p (.lenS (.t 50)), none⟩, ⟨(some 52), .p (.bin .leq (.t 49) (.t 51)), none⟩]) <|
  .seq (.keep [0, 1, 5, 7, 8, 52]) <|
  .cond (.t 52) (
    .skip) (
    .exit 0)) <|
  .seq (.keep [0, 1, 5, 7, 8]) <|
  .seq (.blk 1 (
    .seq (.seq (.drw [(⟨(some 56), .p (.mv (.t 0)), none⟩, [], false), (⟨(some 57), .p (.mv (.t 8)), none⟩, [], false), (⟨(some 58), .p (.mv (.t 8)), none⟩, [], false), (⟨(some 59), .p (.mv (.t 1)), none⟩, [], false), (⟨(some 60), .p (.bin .add (.t 58) (.t 59)), none⟩, [], false), (⟨(some 61), .p (.slSl 1 (.t 56) (some (.t 57)) (some (.t 60)) none), none⟩, [], false), (⟨(some 62), .call (.st 19) [(.t 61)], none⟩, [], false), (⟨(some 55), .r (.ldN 3 (.t 7)), none⟩, [0], false), (⟨(some 63), .p (.eqv true (.flat [.int, .int, .int]) (.t 55) (.t 62)), none⟩, [], true), (⟨(some 64), .p (.mv (.t 63)), none⟩, [], true), (⟨(some 69), .r (.ldN 3 (.t 7)), some (64, false)⟩, [], false), (⟨(some 70), .call (.st 21) [(.t 69)], some (64, false)⟩, [], false), (⟨(some 65), .p (.mv (.t 5)), some (64, false)⟩, [1], false), (⟨(some 66), .p (.mv (.t 8)), some (64, false)⟩, [1], false), (⟨(some 67), .p (.idxS 1 (.t 65) (.t 66)), some (64, false)⟩, [1], false), (⟨(some 68), .r (.ld (.t 67)), some (64, false)⟩, [1], false), (⟨(some 71), .p (.bin .neq (.t 68) (.t 70)), some (64, false)⟩, [], true), (⟨(some 72), .p (.pick (.t 64) (.c (.bool true)) (.t 71)), none⟩, [], true)]) <|
    .seq (.keep [0, 1, 5, 7, 8, 72]) <|
    .cond (.t 72) (
      .seq (.reg [⟨(some 4), .p (.mv (.c (.bool false))), none⟩]) <|
      .ret) (
      .skip)) <|
    .seq (.keep [0, 1, 5, 7, 8]) <|
    .seq (.seq (.reg [⟨(some 73), .p (.mv (.t 8)), none⟩, ⟨(some 74), .p (.mv (.t 1)), none⟩, ⟨(some 75), .p (.bin .add (.t 73) (.t 74)), none⟩, ⟨(some 76), .p (.mv (.t 0)), none⟩, ⟨(some 77), .p (.lenS (.t 76)), none⟩, ⟨(some 78), .p (.bin .eql (.t 75) (.t 77)), none⟩]) <|
    .seq (.keep [0, 1, 5, 7, 8, 78]) <|
    .cond (.t 78) (
      .exit 0) (
      .skip)) <|
    .seq (.keep [0, 1, 5, 7, 8]) <|
    .seq (.drw [(⟨(some 80), .r (.ldN 3 (.t 7)), none⟩, [], false), (⟨(some 81), .p (.mv (.t 0)), none⟩, [], false), (⟨(some 82), .p (.mv (.t 8)), none⟩, [], false), (⟨(some 83), .p (.idxS 1 (.t 81) (.t 82)), none⟩, [], false), (⟨(some 84), .r (.ld (.t 83)), none⟩, [], false), (⟨(some 85), .p (.mv (.t 0)), none⟩, [], false), (⟨(some 86), .p (.mv (.t 8)), none⟩, [], false), (⟨(some 87), .p (.mv (.t 1)), none⟩, [], false), (⟨(some 88), .p (.bin .add (.t 86) (.t 87)), none⟩, [], false), (⟨(some 89), .p (.idxS 1 (.t 85) (.t 88)), none⟩, [], false), (⟨(some 90), .r (.ld (.t 89)), none⟩, [], false), (⟨(some 91), .call (.st 15) [(.t 80), (.t 84), (.t 90)], none⟩, [], false), (⟨(some 79), .p (.mv (.t 91)), none⟩, [], false), (⟨(some 92), .p (.ext (.t 79) 0), none⟩, [], false), (⟨(some 9), .n (.alloc [(u32 0), (u32 0), (i64 0)]), none⟩, [0], false), (⟨none, .l (.stN 3 (.t 9) (.t 92)), none⟩, [], false), (⟨(some 93), .p (.ext (.t 79) 1), none⟩, [1], false), (⟨(some 10), .p (.mv (.t 93)), none⟩, [], true)]) <|
    .seq (.keep [0, 1, 5, 7, 8, 9, 10]) <|
    .seq (.seq (.reg [⟨(some 94), .p (.mv (.t 10)), none⟩, ⟨(some 95), .p (.bin .neq (.t 94) (.c (i64 0))), none⟩]) <|
    .cond (.t 95) (
      .seq (.reg [⟨(some 4), .p (.mv (.c (.bool false))), none⟩]) <|
      .ret) (
      .skip)) <|
    .seq (.keep [0, 1, 5, 7, 8, 9]) <|
    .reg [⟨(some 96), .r (.ldN 3 (.t 9)), none⟩, ⟨none, .l (.stN 3 (.t 7) (.t 96)), none⟩])) <|
  .seq (.keep [0, 1, 5, 7, 8]) <|
  .reg [⟨(some 53), .p (.mv (.t 8)), none⟩, ⟨(some 54), .p (.bin .add (.t 53) (.c (i64 1))), none⟩, ⟨(some 8), .p (.mv (.t 54)), none⟩]
def c6 : ACode :=
  .seq (.reg [⟨(some 4), .p (.mv (.c (.bool false))), none⟩]) <|
  .seq (.seq (.reg [⟨(some 11), .p (.mv (.t 0)), none⟩, ⟨(some 12), .p (.lenS (.t 11)), none⟩, ⟨(some 13), .p (.bin .gtr (.t 12) (.c (i64 600))), none⟩, ⟨(some 14), .p (.mv (.t 13)), none⟩, ⟨(some 15), .p (.mv (.t 1)), some (14, false)⟩, ⟨(some 16), .p (.bin .lss (.t 15) (.c (i64 1))), some (14, false)⟩, ⟨(some 17), .p (.pick (.t 14) (.c (.bool true)) (.t 16)), none⟩, ⟨(some 18), .p (.mv (.t 17)), none⟩, ⟨(some 19), .p (.mv (.t 1)), some (18, false)⟩, ⟨(some 20), .p (.mv (.t 0)), some (18, false)⟩, ⟨(some 21), .p (.lenS (.t 20)), some (18, false)⟩, ⟨(some 22), .p (.bin .gtr (.t 19) (.t 21)), some (18, false)⟩, ⟨(some 23), .p (.pick (.t 18) (.c (.bool true)) (.t 22)), none⟩]) <|
  .seq (.keep [0, 1, 23]) <|
  .cond (.t 23) (
    .seq (.reg [⟨(some 24), .call (.st 14) [], none⟩, ⟨(some 4), .p (.mv (.t 24)), none⟩]) <|
    .ret) (
    .skip)) <|
  .seq (.keep [0, 1]) <|
  .seq (.reg [⟨(some 26), .p (.mv (.t 0)), none⟩, ⟨(some 27), .p (.mv (.t 1)), none⟩, ⟨(some 28), .call (.st 17) [(.t 26), (.t 27)], none⟩, ⟨(some 25), .p (.mv (.t 28)), none⟩, ⟨(some 29), .p (.ext (.t 25) 0), none⟩, ⟨(some 30), .p (.ext (.t 25) 1), none⟩, ⟨(some 5), .p (.mv (.t 29)), none⟩, ⟨(some 6), .p (.mv (.t 30)), none⟩]) <|
  .seq (.keep [0, 1, 5, 6]) <|
  .seq (.seq (.reg [⟨(some 31), .p (.mv (.t 6)), none⟩, ⟨(some 32), .p (.bin .neq (.t 31) (.c (i64 0))), none⟩, ⟨(some 33), .p (.mv (.t 32)), none⟩, ⟨(some 34), .p (.mv (.t 5)), some (33, false)⟩, ⟨(some 35), .p (.lenS (.t 34)), some (33, false)⟩, ⟨(some 36), .p (.mv (.t 0)), some (33, false)⟩, ⟨(some 37), .p (.lenS (.t 36)), some (33, false)⟩, ⟨(some 38), .p (.mv (.t 1)), some (33, false)⟩, ⟨(some 39), .p (.bin .sub (.t 37) (.t 38)), some (33, false)⟩, ⟨(some 40), .p (.bin .add (.t 39) (.c (i64 1))), some (33, false)⟩, ⟨(some 41), .p (.bin .neq (.t 35) (.t 40)), some (33, false)⟩, ⟨(some 42), .p (.pick (.t 33) (.c (.bool true)) (.t 41)), none⟩]) <|
  .seq (.keep [0, 1, 5, 42]) <|
  .cond (.t 42) (
    .seq (.reg [⟨(some 4), .p (.mv (.c (.bool false))), none⟩]) <|
    .ret) (
    .skip)) <|
  .seq (.keep [0, 1, 5]) <|
  .seq (.reg [⟨(some 43), .p (.mv (.t 0)), none⟩, ⟨(some 44), .p (.mv (.t 1)), none⟩, ⟨(some 45), .p (.slSl 1 (.t 43) none (some (.t 44)) none), none⟩, ⟨(some 46), .call (.st 19) [(.t 45)], none⟩, ⟨(some 7), .n (.alloc [(u32 0), (u32 0), (i64 0)]), none⟩, ⟨none, .l (.stN 3 (.t 7) (.t 46)), none⟩]) <|
  .seq (.keep [0, 1, 5, 7]) <|
  .seq (.seq (.reg [⟨(some 8), .p (.mv (.c (i64 0))), none⟩]) <|
  .blk 0 (
    .loop (.seq (.keep [0, 1, 5, 7, 8]) c6_0))) <|
  .seq (.keep []) <|
  .seq (.reg [⟨(some 97), .call (.st 14) [], none⟩, ⟨(some 4), .p (.mv (.t 97)), none⟩]) <|
  .ret
def r6 : List ARes := [.t 4]
/- archivolt/archivoltlaw02.SumsStreams -/
def c7_0 : ACode :=
  .seq (.seq (.reg [⟨(some 22), .p (.mv (.t 5)), none⟩, ⟨(some 23), .p (.mv (.t 0)), none⟩, ⟨(some 24), .p (.lenS (.t 23)), none⟩, ⟨(some 25), .p (.bin .lss (.t 22) (.t 24)), none⟩]) <|
  .cond (.t 25) (
    .skip) (
    .exit 0)) <|
  .seq (.keep [0, 3, 4, 5]) <|
  .seq (.blk 1 (
    .seq (.drw [(⟨(some 29), .r (.ldN 9 (.t 3)), none⟩, [], false), (⟨(some 30), .p (.mv (.t 0)), none⟩, [], false), (⟨(some 31), .p (.mv (.t 5)), none⟩, [], false), (⟨(some 32), .p (.idxS 1 (.t 30) (.t 31)), none⟩, [], false), (⟨(some 33), .r (.ld (.t 32)), none⟩, [], false), (⟨(some 34), .call (.st 36) [(.t 29), (.t 33)], none⟩, [], false), (⟨(some 28), .p (.mv (.t 34)), none⟩, [], false), (⟨(some 35), .p (.ext (.t 28) 0), none⟩, [], false), (⟨(some 6), .n (.alloc [(u32 0), (u32 0), (u32 0), (u32 0), (u32 0), (u32 0), (u32 0), (u32 0), .nils]), none⟩, [0], false), (⟨none, .l (.stN 9 (.t 6) (.t 35)), none⟩, [], false), (⟨(some 36), .p (.ext (.t 28) 1), none⟩, [1], false), (⟨(some 7), .p (.mv (.t 36)), none⟩, [], true)]) <|
    .seq (.keep [0, 3, 4, 5, 6, 7]) <|
    .seq (.seq (.reg [⟨(some 37), .p (.mv (.t 7)), none⟩, ⟨(some 38), .p (.bin .neq (.t 37) (.c (i64 0))), none⟩]) <|
    .cond (.t 38) (
      .seq (.reg [⟨(some 2), .p (.mv (.c (.bool false))), none⟩]) <|
      .ret) (
      .skip)) <|
    .seq (.keep [0, 3, 4, 5, 6]) <|
    .seq (.reg [⟨(some 39), .r (.ldN 9 (.t 6)), none⟩, ⟨none, .l (.stN 9 (.t 3) (.t 39)), none⟩]) <|
    .reg [⟨(some 40), .p (.mv (.t 4)), none⟩, ⟨(some 41), .p (.mv (.t 0)), none⟩, ⟨(some 42), .p (.mv (.t 5)), none⟩, ⟨(some 43), .p (.idxS 1 (.t 41) (.t 42)), none⟩, ⟨(some 44), .r (.ld (.t 43)), none⟩, ⟨(some 45), .l (.app 1 1 (.t 40) (.t 44)), none⟩, ⟨(some 4), .p (.mv (.t 45)), none⟩])) <|
  .seq (.keep [0, 3, 4, 5]) <|
  .reg [⟨(some 26), .p (.mv (.t 5)), none⟩, ⟨(some 27), .p (.bin .add (.t 26) (.c (i64 1))), none⟩, ⟨(some 5), .p (.mv (.t 27)), none⟩]
def c7 : ACode :=
  .seq (.reg [⟨(some 2), .p (.mv (.c (.bool false))), none⟩]) <|
  .seq (.seq (.reg [⟨(some 12), .p (.mv (.t 0)), none⟩, ⟨(some 13), .p (.lenS (.t 12)), none⟩, ⟨(some 14), .p (.bin .gtr (.t 13) (.c (i64 200))), none⟩, ⟨(some 15), .p (.mv (.t 14)), none⟩, ⟨(some 16), .p (.mv (.t 0)), some (15, false)⟩, ⟨(some 17), .call (.st 24) [(.t 16)], some (15, false)⟩, ⟨(some 18), .p (.un .not (.t 17)), some (15, false)⟩, ⟨(some 19), .p (.pick (.t 15) (.c (.bool true)) (.t 18)), none⟩]) <|
  .seq (.keep [0, 19]) <|
  .cond (.t 19) (
    .seq (.reg [⟨(some 20), .call (.st 14) [], none⟩, ⟨(some 2), .p (.mv (.t 20)), none⟩]) <|
    .ret) (
    .skip)) <|
  .seq (.keep [0]) <|
  .seq (.reg [⟨(some 21), .call (.st 35) [], none⟩, ⟨(some 3), .n (.alloc [(u32 0), (u32 0), (u32 0), (u32 0), (u32 0), (u32 0), (u32 0), (u32 0), .nils]), none⟩, ⟨none, .l (.stN 9 (.t 3) (.t 21)), none⟩]) <|
  .seq (.reg [⟨(some 4), .p (.mv (.c .nils)), none⟩]) <|
  .seq (.seq (.reg [⟨(some 5), .p (.mv (.c (i64 0))), none⟩]) <|
  .blk 0 (
    .loop (.seq (.keep [0, 3, 4, 5]) c7_0))) <|
  .seq (.keep [3, 4]) <|
  .seq (.reg [⟨(some 47), .call (.st 35) [], none⟩, ⟨(some 48), .p (.mv (.t 4)), none⟩, ⟨(some 49), .call (.st 36) [(.t 47), (.t 48)], none⟩, ⟨(some 46), .p (.mv (.t 49)), none⟩, ⟨(some 50), .p (.ext (.t 46) 0), none⟩, ⟨(some 51), .p (.ext (.t 46) 1), none⟩, ⟨(some 8), .n (.alloc [(u32 0), (u32 0), (u32 0), (u32 0), (u32 0), (u32 0), (u32 0), (u32 0), .nils]), none⟩, ⟨none, .l (.stN 9 (.t 8) (.t 50)), none⟩, ⟨(some 9), .p (.mv (.t 51)), none⟩]) <|
  .seq (.keep [3, 4, 8, 9]) <|
  .seq (.reg [⟨(some 53), .r (.ldN 9 (.t 3)), none⟩, ⟨(some 54), .call (.st 37) [(.t 53)], none⟩, ⟨(some 52), .p (.mv (.t 54)), none⟩, ⟨(some 55), .p (.ext (.t 52) 0), none⟩, ⟨(some 56), .p (.ext (.t 52) 1), none⟩, ⟨(some 10), .n (.alloc (List.replicate 16 (u8 0))), none⟩, ⟨none, .l (.stN 16 (.t 10) (.t 55)), none⟩, ⟨(some 11), .p (.mv (.t 56)), none⟩]) <|
  .seq (.keep [3, 4, 8, 9, 10, 11]) <|
  .seq (.drw [(⟨(some 57), .call (.st 14) [], none⟩, [], true), (⟨(some 58), .p (.mv (.t 57)), none⟩, [], true), (⟨(some 59), .p (.mv (.t 9)), some (58, true)⟩, [], true), (⟨(some 60), .p (.bin .eql (.t 59) (.c (i64 0))), some (58, true)⟩, [], true), (⟨(some 61), .p (.pick (.t 58) (.t 60) (.c (.bool false))), none⟩, [], true), (⟨(some 62), .p (.mv (.t 61)), none⟩, [], true), (⟨(some 63), .p (.mv (.t 11)), some (62, true)⟩, [], true), (⟨(some 64), .p (.bin .eql (.t 63) (.c (i64 0))), some (62, true)⟩, [], true), (⟨(some 65), .p (.pick (.t 62) (.t 64) (.c (.bool false))), none⟩, [], true), (⟨(some 66), .p (.mv (.t 65)), none⟩, [], true), (⟨(some 67), .r (.ldN 9 (.t 3)), some (66, true)⟩, [], false), (⟨(some 68), .r (.ldN 9 (.t 8)), some (66, true)⟩, [], false), (⟨(some 69), .call (.st 38) [(.t 67), (.t 68)], some (66, true)⟩, [], true), (⟨(some 70), .p (.pick (.t 66) (.t 69) (.c (.bool false))), none⟩, [], true), (⟨(some 71), .p (.mv (.t 70)), none⟩, [], true), (⟨(some 73), .p (.mv (.t 4)), some (71, true)⟩, [], false), (⟨(some 74), .call (.st 39) [(.t 73)], some (71, true)⟩, [], false), (⟨(some 72), .r (.ldN 16 (.t 10)), some (71, true)⟩, [2], false), (⟨(some 75), .p (.eqv false (.flat [.int, .int, .int, .int, .int, .int, .int, .int, .int, .int, .int, .int, .int, .int, .int, .int]) (.t 72) (.t 74)), some (71, true)⟩, [], true), (⟨(some 76), .p (.pick (.t 71) (.t 75) (.c (.bool false))), none⟩, [], true), (⟨(some 2), .p (.mv (.t 76)), none⟩, [], true)]) <|
  .ret
def r7 : List ARes := [.t 2]
/- archivolt/archivoltlaw02.SumsProofs -/
def c8 : ACode :=
  .seq (.reg [⟨(some 6), .p (.mv (.c (.bool false))), none⟩]) <|
  .seq (.seq (.reg [⟨(some 16), .p (.mv (.t 0)), none⟩, ⟨(some 17), .call (.st 24) [(.t 16)], none⟩, ⟨(some 18), .p (.un .not (.t 17)), none⟩, ⟨(some 19), .p (.mv (.t 18)), none⟩, ⟨(some 20), .p (.mv (.t 2)), some (19, false)⟩, ⟨(some 21), .p (.lenS (.t 20)), some (19, false)⟩, ⟨(some 22), .p (.bin .gtr (.t 21) (.c (i64 1000))), some (19, false)⟩, ⟨(some 23), .p (.pick (.t 19) (.c (.bool true)) (.t 22)), none⟩, ⟨(some 24), .p (.mv (.t 23)), none⟩, ⟨(some 25), .p (.mv (.t 0)), some (24, false)⟩, ⟨(some 26), .p (.lenS (.t 25)), some (24, false)⟩, ⟨(some 27), .p (.bin .eql (.t 26) (.c (i64 0))), some (24, false)⟩, ⟨(some 28), .p (.pick (.t 24) (.c (.bool true)) (.t 27)), none⟩, ⟨(some 29), .p (.mv (.t 28)), none⟩, ⟨(some 30), .p (.mv (.t 0)), some (29, false)⟩, ⟨(some 31), .p (.lenS (.t 30)), some (29, false)⟩, ⟨(some 32), .p (.bin .gtr (.t 31) (.c (i64 4096))), some (29, false)⟩, ⟨(some 33), .p (.pick (.t 29) (.c (.bool true)) (.t 32)), none⟩, ⟨(some 34), .p (.mv (.t 33)), none⟩, ⟨(some 35), .p (.mv (.t 1)), some (34, false)⟩, ⟨(some 36), .p (.bin .lss (.t 35) (.c (i64 0))), some (34, false)⟩, ⟨(some 37), .p (.pick (.t 34) (.c (.bool true)) (.t 36)), none⟩, ⟨(some 38), .p (.mv (.t 37)), none⟩, ⟨(some 39), .p (.mv (.t 1)), some (38, false)⟩, ⟨(some 40), .p (.mv (.t 0)), some (38, false)⟩, ⟨(some 41), .p (.lenS (.t 40)), some (38, false)⟩, ⟨(some 42), .p (.bin .geq (.t 39) (.t 41)), some (38, false)⟩, ⟨(some 43), .p (.pick (.t 38) (.c (.bool true)) (.t 42)), none⟩]) <|
  .seq (.keep [0, 1, 2, 43]) <|
  .cond (.t 43) (
    .seq (.reg [⟨(some 44), .call (.st 14) [], none⟩, ⟨(some 6), .p (.mv (.t 44)), none⟩]) <|
    .ret) (
    .skip)) <|
  .seq (.keep [0, 1, 2]) <|
  .seq (.reg [⟨(some 46), .p (.mv (.t 0)), none⟩, ⟨(some 47), .call (.st 25) [(.t 46)], none⟩, ⟨(some 45), .p (.mv (.t 47)), none⟩, ⟨(some 48), .p (.ext (.t 45) 0), none⟩, ⟨(some 49), .p (.ext (.t 45) 1), none⟩, ⟨(some 7), .n (.alloc (List.replicate 16 (u8 0))), none⟩, ⟨none, .l (.stN 16 (.t 7) (.t 48)), none⟩, ⟨(some 8), .p (.mv (.t 49)), none⟩]) <|
  .seq (.keep [0, 1, 2, 7, 8]) <|
  .seq (.reg [⟨(some 51), .p (.mv (.t 0)), none⟩, ⟨(some 52), .p (.mv (.t 1)), none⟩, ⟨(some 53), .call (.st 27) [(.t 51), (.t 52)], none⟩, ⟨(some 50), .p (.mv (.t 53)), none⟩, ⟨(some 54), .p (.ext (.t 50) 0), none⟩, ⟨(some 55), .p (.ext (.t 50) 1), none⟩, ⟨(some 9), .p (.mv (.t 54)), none⟩, ⟨(some 10), .p (.mv (.t 55)), none⟩]) <|
  .seq (.keep [0, 1, 2, 7, 8, 9, 10]) <|
  .seq (.seq (.drw [(⟨(some 56), .p (.mv (.t 8)), none⟩, [], true), (⟨(some 57), .p (.bin .neq (.t 56) (.c (i64 0))), none⟩, [], true), (⟨(some 58), .p (.mv (.t 57)), none⟩, [], true), (⟨(some 59), .p (.mv (.t 10)), some (58, false)⟩, [], true), (⟨(some 60), .p (.bin .neq (.t 59) (.c (i64 0))), some (58, false)⟩, [], true), (⟨(some 61), .p (.pick (.t 58) (.c (.bool true)) (.t 60)), none⟩, [], true), (⟨(some 62), .p (.mv (.t 61)), none⟩, [], true), (⟨(some 63), .r (.ldN 16 (.t 7)), some (62, false)⟩, [], false), (⟨(some 64), .p (.mv (.t 0)), some (62, false)⟩, [], false), (⟨(some 65), .p (.lenS (.t 64)), some (62, false)⟩, [], false), (⟨(some 66), .p (.mv (.t 1)), some (62, false)⟩, [], false), (⟨(some 67), .p (.mv (.t 0)), some (62, false)⟩, [], false), (⟨(some 68), .p (.mv (.t 1)), some (62, false)⟩, [], false), (⟨(some 69), .p (.idxS 1 (.t 67) (.t 68)), some (62, false)⟩, [], false), (⟨(some 70), .r (.ld (.t 69)), some (62, false)⟩, [], false), (⟨(some 71), .p (.mv (.t 9)), some (62, false)⟩, [], false), (⟨(some 72), .call (.st 32) [(.t 63), (.t 65), (.t 66), (.t 70), (.t 71)], some (62, false)⟩, [], true), (⟨(some 73), .p (.bin .neq (.t 72) (.c (i64 0))), some (62, false)⟩, [], true), (⟨(some 74), .p (.pick (.t 62) (.c (.bool true)) (.t 73)), none⟩, [], true)]) <|
  .seq (.keep [0, 1, 2, 9, 74]) <|
  .cond (.t 74) (
    .seq (.reg [⟨(some 6), .p (.mv (.c (.bool false))), none⟩]) <|
    .ret) (
    .skip)) <|
  .seq (.keep [0, 1, 2, 9]) <|
  .seq (.reg [⟨(some 11), .p (.mv (.c .nils)), none⟩]) <|
  .seq (.reg [⟨(some 75), .p (.mv (.t 11)), none⟩, ⟨(some 76), .p (.mv (.t 0)), none⟩, ⟨(some 77), .l (.app 1 24 (.t 75) (.t 76)), none⟩, ⟨(some 11), .p (.mv (.t 77)), none⟩]) <|
  .seq (.reg [⟨(some 78), .p (.mv (.t 11)), none⟩, ⟨(some 79), .p (.mv (.t 1)), none⟩, ⟨(some 80), .p (.mv (.t 2)), none⟩, ⟨(some 81), .p (.idxS 1 (.t 78) (.t 79)), none⟩, ⟨none, .l (.st (.t 81) (.t 80)), none⟩]) <|
  .seq (.reg [⟨(some 83), .p (.mv (.t 0)), none⟩, ⟨(some 84), .p (.lenS (.t 83)), none⟩, ⟨(some 85), .p (.mv (.t 1)), none⟩, ⟨(some 86), .p (.mv (.t 2)), none⟩, ⟨(some 87), .p (.mv (.t 9)), none⟩, ⟨(some 88), .call (.st 30) [(.t 84), (.t 85), (.t 86), (.t 87)], none⟩, ⟨(some 82), .p (.mv (.t 88)), none⟩, ⟨(some 89), .p (.ext (.t 82) 0), none⟩, ⟨(some 90), .p (.ext (.t 82) 1), none⟩, ⟨(some 12), .n (.alloc (List.replicate 16 (u8 0))), none⟩, ⟨none, .l (.stN 16 (.t 12) (.t 89)), none⟩, ⟨(some 13), .p (.mv (.t 90)), none⟩]) <|
  .seq (.keep [11, 12, 13]) <|
  .seq (.reg [⟨(some 92), .p (.mv (.t 11)), none⟩, ⟨(some 93), .call (.st 25) [(.t 92)], none⟩, ⟨(some 91), .p (.mv (.t 93)), none⟩, ⟨(some 94), .p (.ext (.t 91) 0), none⟩, ⟨(some 95), .p (.ext (.t 91) 1), none⟩, ⟨(some 14), .n (.alloc (List.replicate 16 (u8 0))), none⟩, ⟨none, .l (.stN 16 (.t 14) (.t 94)), none⟩, ⟨(some 15), .p (.mv (.t 95)), none⟩]) <|
  .seq (.keep [12, 13, 14, 15]) <|
  .seq (.reg [⟨(some 96), .call (.st 14) [], none⟩, ⟨(some 97), .p (.mv (.t 96)), none⟩, ⟨(some 98), .p (.mv (.t 13)), some (97, true)⟩, ⟨(some 99), .p (.bin .eql (.t 98) (.c (i64 0))), some (97, true)⟩, ⟨(some 100), .p (.pick (.t 97) (.t 99) (.c (.bool false))), none⟩, ⟨(some 101), .p (.mv (.t 100)), none⟩, ⟨(some 102), .p (.mv (.t 15)), some (101, true)⟩, ⟨(some 103), .p (.bin .eql (.t 102) (.c (i64 0))), some (101, true)⟩, ⟨(some 104), .p (.pick (.t 101) (.t 103) (.c (.bool false))), none⟩, ⟨(some 105), .p (.mv (.t 104)), none⟩, ⟨(some 106), .r (.ldN 16 (.t 12)), some (105, true)⟩, ⟨(some 107), .r (.ldN 16 (.t 14)), some (105, true)⟩, ⟨(some 108), .p (.eqv false (.flat [.int, .int, .int, .int, .int, .int, .int, .int, .int, .int, .int, .int, .int, .int, .int, .int]) (.t 106) (.t 107)), some (105, true)⟩, ⟨(some 109), .p (.pick (.t 105) (.t 108) (.c (.bool false))), none⟩, ⟨(some 6), .p (.mv (.t 109)), none⟩]) <|
  .ret
def r8 : List ARes := [.t 6]
/- archivolt/archivoltlaw02.SumsBijection -/
def c9 : ACode :=
  .seq (.reg [⟨(some 1), .n (.box (.t 0)), none⟩, ⟨(some 2), .p (.mv (.c (.bool false))), none⟩]) <|
  .seq (.drw [(⟨(some 3), .call (.st 14) [], none⟩, [], true), (⟨(some 4), .p (.mv (.t 3)), none⟩, [], true), (⟨(some 5), .r (.ldN 8 (.t 1)), some (4, true)⟩, [], false), (⟨(some 6), .call (.st 41) [(.t 5)], some (4, true)⟩, [], false), (⟨(some 7), .call (.st 40) [(.t 6)], some (4, true)⟩, [], false), (⟨(some 8), .r (.ldN 8 (.t 1)), some (4, true)⟩, [1, 2], false), (⟨(some 9), .p (.eqv false (.flat [.int, .int, .int, .int, .int, .int, .int, .int]) (.t 7) (.t 8)), some (4, true)⟩, [], true), (⟨(some 10), .p (.pick (.t 4) (.t 9) (.c (.bool false))), none⟩, [], true), (⟨(some 11), .p (.mv (.t 10)), none⟩, [], true), (⟨(some 12), .r (.ldN 8 (.t 1)), some (11, true)⟩, [], false), (⟨(some 13), .call (.st 40) [(.t 12)], some (11, true)⟩, [], false), (⟨(some 14), .call (.st 41) [(.t 13)], some (11, true)⟩, [], false), (⟨(some 15), .r (.ldN 8 (.t 1)), some (11, true)⟩, [3, 4], false), (⟨(some 16), .p (.eqv false (.flat [.int, .int, .int, .int, .int, .int, .int, .int]) (.t 14) (.t 15)), some (11, true)⟩, [], true), (⟨(some 17), .p (.pick (.t 11) (.t 16) (.c (.bool false))), none⟩, [], true), (⟨(some 2), .p (.mv (.t 17)), none⟩, [], true)]) <|
  .ret
def r9 : List ARes := [.t 2]
/- archivolt/archivoltlaw02.SumsCollides -/
def c10 : ACode :=
  .seq (.reg [⟨(some 12), .p (.mv (.c (.bool false))), none⟩]) <|
  .seq (.seq (.reg [⟨(some 19), .p (.mv (.t 2)), none⟩, ⟨(some 20), .p (.lenS (.t 19)), none⟩, ⟨(some 21), .p (.bin .gtr (.t 20) (.c (i64 1000))), none⟩, ⟨(some 22), .p (.mv (.t 21)), none⟩, ⟨(some 23), .p (.mv (.t 4)), some (22, false)⟩, ⟨(some 24), .p (.lenS (.t 23)), some (22, false)⟩, ⟨(some 25), .p (.bin .gtr (.t 24) (.c (i64 1000))), some (22, false)⟩, ⟨(some 26), .p (.pick (.t 22) (.c (.bool true)) (.t 25)), none⟩, ⟨(some 27), .p (.mv (.t 26)), none⟩, ⟨(some 28), .p (.mv (.t 3)), some (27, false)⟩, ⟨(some 29), .p (.lenS (.t 28)), some (27, false)⟩, ⟨(some 30), .p (.bin .gtr (.t 29) (.c (i64 50))), some (27, false)⟩, ⟨(some 31), .p (.pick (.t 27) (.c (.bool true)) (.t 30)), none⟩, ⟨(some 32), .p (.mv (.t 31)), none⟩, ⟨(some 33), .p (.mv (.t 5)), some (32, false)⟩, ⟨(some 34), .p (.lenS (.t 33)), some (32, false)⟩, ⟨(some 35), .p (.bin .gtr (.t 34) (.c (i64 50))), some (32, false)⟩, ⟨(some 36), .p (.pick (.t 32) (.c (.bool true)) (.t 35)), none⟩]) <|
  .seq (.keep [0, 1, 2, 3, 4, 5, 36]) <|
  .cond (.t 36) (
    .seq (.reg [⟨(some 37), .call (.st 14) [], none⟩, ⟨(some 12), .p (.mv (.t 37)), none⟩]) <|
    .ret) (
    .skip)) <|
  .seq (.keep [0, 1, 2, 3, 4, 5]) <|
  .seq (.reg [⟨(some 39), .p (.mv (.t 0)), none⟩, ⟨(some 40), .p (.mv (.t 1)), none⟩, ⟨(some 41), .p (.mv (.t 2)), none⟩, ⟨(some 42), .p (.mv (.t 3)), none⟩, ⟨(some 43), .p (.mv (.t 4)), none⟩, ⟨(some 44), .p (.mv (.t 5)), none⟩, ⟨(some 45), .call (.st 42) [(.t 39), (.t 40), (.t 41), (.t 42), (.t 43), (.t 44)], none⟩, ⟨(some 38), .p (.mv (.t 45)), none⟩, ⟨(some 46), .p (.ext (.t 38) 0), none⟩, ⟨(some 47), .p (.ext (.t 38) 1), none⟩, ⟨(some 48), .p (.ext (.t 38) 2), none⟩, ⟨(some 13), .p (.mv (.t 46)), none⟩, ⟨(some 14), .p (.mv (.t 47)), none⟩, ⟨(some 15), .p (.mv (.t 48)), none⟩]) <|
  .seq (.keep [0, 1, 2, 3, 4, 5, 13, 14, 15]) <|
  .seq (.reg [⟨(some 50), .p (.mv (.t 0)), none⟩, ⟨(some 51), .p (.mv (.t 1)), none⟩, ⟨(some 52), .p (.mv (.t 2)), none⟩, ⟨(some 53), .p (.mv (.t 3)), none⟩, ⟨(some 54), .p (.mv (.t 4)), none⟩, ⟨(some 55), .p (.mv (.t 5)), none⟩, ⟨(some 56), .call (.st 43) [(.t 50), (.t 51), (.t 52), (.t 53), (.t 54), (.t 55)], none⟩, ⟨(some 49), .p (.mv (.t 56)), none⟩, ⟨(some 57), .p (.ext (.t 49) 0), none⟩, ⟨(some 58), .p (.ext (.t 49) 1), none⟩, ⟨(some 59), .p (.ext (.t 49) 2), none⟩, ⟨(some 16), .p (.mv (.t 57)), none⟩, ⟨(some 17), .p (.mv (.t 58)), none⟩, ⟨(some 18), .p (.mv (.t 59)), none⟩]) <|
  .seq (.keep [13, 14, 15, 16, 17, 18]) <|
  .seq (.reg [⟨(some 60), .call (.st 14) [], none⟩, ⟨(some 61), .p (.mv (.t 60)), none⟩, ⟨(some 62), .p (.mv (.t 13)), some (61, true)⟩, ⟨(some 63), .r (.b2s (.t 62)), some (61, true)⟩, ⟨(some 64), .p (.mv (.t 16)), some (61, true)⟩, ⟨(some 65), .r (.b2s (.t 64)), some (61, true)⟩, ⟨(some 66), .p (.bin .eql (.t 63) (.t 65)), some (61, true)⟩, ⟨(some 67), .p (.pick (.t 61) (.t 66) (.c (.bool false))), none⟩, ⟨(some 68), .p (.mv (.t 67)), none⟩, ⟨(some 69), .p (.mv (.t 14)), some (68, true)⟩, ⟨(some 70), .r (.b2s (.t 69)), some (68, true)⟩, ⟨(some 71), .p (.mv (.t 17)), some (68, true)⟩, ⟨(some 72), .r (.b2s (.t 71)), some (68, true)⟩, ⟨(some 73), .p (.bin .eql (.t 70) (.t 72)), some (68, true)⟩, ⟨(some 74), .p (.pick (.t 68) (.t 73) (.c (.bool false))), none⟩, ⟨(some 75), .p (.mv (.t 74)), none⟩, ⟨(some 76), .p (.mv (.t 15)), some (75, true)⟩, ⟨(some 77), .p (.mv (.t 18)), some (75, true)⟩, ⟨(some 78), .p (.bin .eql (.t 76) (.t 77)), some (75, true)⟩, ⟨(some 79), .p (.pick (.t 75) (.t 78) (.c (.bool false))), none⟩, ⟨(some 12), .p (.mv (.t 79)), none⟩]) <|
  .ret
def r10 : List ARes := [.t 12]
/- archivolt/archivoltlaw02.SumsBinding -/
def c11 : ACode :=
  .seq (.reg [⟨(some 12), .p (.mv (.c (.bool false))), none⟩]) <|
  .seq (.seq (.reg [⟨(some 21), .p (.mv (.t 2)), none⟩, ⟨(some 22), .p (.lenS (.t 21)), none⟩, ⟨(some 23), .p (.bin .gtr (.t 22) (.c (i64 1000))), none⟩, ⟨(some 24), .p (.mv (.t 23)), none⟩, ⟨(some 25), .p (.mv (.t 4)), some (24, false)⟩, ⟨(some 26), .p (.lenS (.t 25)), some (24, false)⟩, ⟨(some 27), .p (.bin .gtr (.t 26) (.c (i64 1000))), some (24, false)⟩, ⟨(some 28), .p (.pick (.t 24) (.c (.bool true)) (.t 27)), none⟩, ⟨(some 29), .p (.mv (.t 28)), none⟩, ⟨(some 30), .p (.mv (.t 3)), some (29, false)⟩, ⟨(some 31), .p (.lenS (.t 30)), some (29, false)⟩, ⟨(some 32), .p (.bin .gtr (.t 31) (.c (i64 50))), some (29, false)⟩, ⟨(some 33), .p (.pick (.t 29) (.c (.bool true)) (.t 32)), none⟩, ⟨(some 34), .p (.mv (.t 33)), none⟩, ⟨(some 35), .p (.mv (.t 5)), some (34, false)⟩, ⟨(some 36), .p (.lenS (.t 35)), some (34, false)⟩, ⟨(some 37), .p (.bin .gtr (.t 36) (.c (i64 50))), some (34, false)⟩, ⟨(some 38), .p (.pick (.t 34) (.c (.bool true)) (.t 37)), none⟩]) <|
  .seq (.keep [0, 1, 2, 3, 4, 5, 38]) <|
  .cond (.t 38) (
    .seq (.reg [⟨(some 39), .call (.st 14) [], none⟩, ⟨(some 12), .p (.mv (.t 39)), none⟩]) <|
    .ret) (
    .skip)) <|
  .seq (.keep [0, 1, 2, 3, 4, 5]) <|
  .seq (.reg [⟨(some 41), .p (.mv (.t 0)), none⟩, ⟨(some 42), .p (.mv (.t 1)), none⟩, ⟨(some 43), .p (.mv (.t 2)), none⟩, ⟨(some 44), .p (.mv (.t 3)), none⟩, ⟨(some 45), .call (.st 30) [(.t 41), (.t 42), (.t 43), (.t 44)], none⟩, ⟨(some 40), .p (.mv (.t 45)), none⟩, ⟨(some 46), .p (.ext (.t 40) 0), none⟩, ⟨(some 47), .p (.ext (.t 40) 1), none⟩, ⟨(some 13), .n (.alloc (List.replicate 16 (u8 0))), none⟩, ⟨none, .l (.stN 16 (.t 13) (.t 46)), none⟩, ⟨(some 14), .p (.mv (.t 47)), none⟩]) <|
  .seq (.keep [0, 1, 2, 3, 4, 5, 13, 14]) <|
  .seq (.reg [⟨(some 49), .p (.mv (.t 0)), none⟩, ⟨(some 50), .p (.mv (.t 1)), none⟩, ⟨(some 51), .p (.mv (.t 4)), none⟩, ⟨(some 52), .p (.mv (.t 5)), none⟩, ⟨(some 53), .call (.st 30) [(.t 49), (.t 50), (.t 51), (.t 52)], none⟩, ⟨(some 48), .p (.mv (.t 53)), none⟩, ⟨(some 54), .p (.ext (.t 48) 0), none⟩, ⟨(some 55), .p (.ext (.t 48) 1), none⟩, ⟨(some 15), .n (.alloc (List.replicate 16 (u8 0))), none⟩, ⟨none, .l (.stN 16 (.t 15) (.t 54)), none⟩, ⟨(some 16), .p (.mv (.t 55)), none⟩]) <|
  .seq (.keep [0, 1, 2, 3, 4, 5, 13, 14, 15, 16]) <|
  .seq (.reg [⟨(some 57), .p (.mv (.t 0)), none⟩, ⟨(some 58), .p (.mv (.t 1)), none⟩, ⟨(some 59), .p (.mv (.t 2)), none⟩, ⟨(some 60), .p (.mv (.t 3)), none⟩, ⟨(some 61), .p (.mv (.t 4)), none⟩, ⟨(some 62), .p (.mv (.t 5)), none⟩, ⟨(some 63), .call (.st 42) [(.t 57), (.t 58), (.t 59), (.t 60), (.t 61), (.t 62)], none⟩, ⟨(some 56), .p (.mv (.t 63)), none⟩, ⟨(some 64), .p (.ext (.t 56) 0), none⟩, ⟨(some 65), .p (.ext (.t 56) 1), none⟩, ⟨(some 66), .p (.ext (.t 56) 2), none⟩, ⟨(some 17), .p (.mv (.t 64)), none⟩, ⟨(some 18), .p (.mv (.t 65)), none⟩, ⟨(some 19), .p (.mv (.t 66)), none⟩]) <|
  .seq (.keep [2, 3, 4, 5, 13, 14, 15, 16, 17, 18, 19]) <|
  .seq (.seq (.reg [⟨(some 67), .p (.mv (.t 19)), none⟩, ⟨(some 68), .p (.bin .eql (.t 67) (.c (i64 0))), none⟩, ⟨(some 69), .p (.mv (.t 68)), none⟩, ⟨(some 70), .p (.mv (.t 17)), some (69, true)⟩, ⟨(some 71), .r (.b2s (.t 70)), some (69, true)⟩, ⟨(some 72), .p (.mv (.t 18)), some (69, true)⟩, ⟨(some 73), .r (.b2s (.t 72)), some (69, true)⟩, ⟨(some 74), .p (.bin .eql (.t 71) (.t 73)), some (69, true)⟩, ⟨(some 75), .p (.mv (.t 74)), some (69, true)⟩, ⟨(some 76), .p (.mv (.t 17)), some (75, false)⟩, ⟨(some 77), .call (.st 39) [(.t 76)], some (75, false)⟩, ⟨(some 78), .p (.mv (.t 18)), some (75, false)⟩, ⟨(some 79), .call (.st 39) [(.t 78)], some (75, false)⟩, ⟨(some 80), .p (.eqv true (.flat [.int, .int, .int, .int, .int, .int, .int, .int, .int, .int, .int, .int, .int, .int, .int, .int]) (.t 77) (.t 79)), some (75, false)⟩, ⟨(some 81), .p (.pick (.t 75) (.c (.bool true)) (.t 80)), some (69, true)⟩, ⟨(some 82), .p (.pick (.t 69) (.t 81) (.c (.bool false))), none⟩]) <|
  .seq (.keep [2, 3, 4, 5, 13, 14, 15, 16, 19, 82]) <|
  .cond (.t 82) (
    .seq (.reg [⟨(some 12), .p (.mv (.c (.bool false))), none⟩]) <|
    .ret) (
    .skip)) <|
  .seq (.keep [2, 3, 4, 5, 13, 14, 15, 16, 19]) <|
  .seq (.seq (.reg [⟨(some 83), .p (.mv (.t 14)), none⟩, ⟨(some 84), .p (.bin .neq (.t 83) (.c (i64 0))), none⟩, ⟨(some 85), .p (.mv (.t 84)), none⟩, ⟨(some 86), .p (.mv (.t 16)), some (85, false)⟩, ⟨(some 87), .p (.bin .neq (.t 86) (.c (i64 0))), some (85, false)⟩, ⟨(some 88), .p (.pick (.t 85) (.c (.bool true)) (.t 87)), none⟩]) <|
  .seq (.keep [2, 3, 4, 5, 13, 15, 19, 88]) <|
  .cond (.t 88) (
    .seq (.reg [⟨(some 89), .call (.st 14) [], none⟩, ⟨(some 90), .p (.mv (.t 89)), none⟩, ⟨(some 91), .p (.mv (.t 19)), some (90, true)⟩, ⟨(some 92), .p (.bin .neq (.t 91) (.c (i64 0))), some (90, true)⟩, ⟨(some 93), .p (.pick (.t 90) (.t 92) (.c (.bool false))), none⟩, ⟨(some 12), .p (.mv (.t 93)), none⟩]) <|
    .ret) (
    .skip)) <|
  .seq (.keep [2, 3, 4, 5, 13, 15, 19]) <|
  .seq (.reg [⟨(some 94), .p (.mv (.t 2)), none⟩, ⟨(some 95), .r (.b2s (.t 94)), none⟩, ⟨(some 96), .p (.mv (.t 4)), none⟩, ⟨(some 97), .r (.b2s (.t 96)), none⟩, ⟨(some 98), .p (.bin .neq (.t 95) (.t 97)), none⟩, ⟨(some 99), .p (.mv (.t 98)), none⟩, ⟨(some 100), .p (.mv (.t 3)), some (99, false)⟩, ⟨(some 101), .p (.mv (.t 5)), some (99, false)⟩, ⟨(some 102), .call (.st 29) [(.t 100), (.t 101)], some (99, false)⟩, ⟨(some 103), .p (.un .not (.t 102)), some (99, false)⟩, ⟨(some 104), .p (.pick (.t 99) (.c (.bool true)) (.t 103)), none⟩, ⟨(some 20), .p (.mv (.t 104)), none⟩]) <|
  .seq (.keep [13, 15, 19, 20]) <|
  .seq (.reg [⟨(some 105), .call (.st 14) [], none⟩, ⟨(some 106), .p (.mv (.t 105)), none⟩, ⟨(some 107), .r (.ldN 16 (.t 13)), some (106, true)⟩, ⟨(some 108), .r (.ldN 16 (.t 15)), some (106, true)⟩, ⟨(some 109), .p (.eqv true (.flat [.int, .int, .int, .int, .int, .int, .int, .int, .int, .int, .int, .int, .int, .int, .int, .int]) (.t 107) (.t 108)), some (106, true)⟩, ⟨(some 110), .p (.mv (.t 109)), some (106, true)⟩, ⟨(some 111), .p (.mv (.t 20)), some (110, false)⟩, ⟨(some 112), .p (.un .not (.t 111)), some (110, false)⟩, ⟨(some 113), .p (.pick (.t 110) (.c (.bool true)) (.t 112)), some (106, true)⟩, ⟨(some 114), .p (.mv (.t 113)), some (106, true)⟩, ⟨(some 115), .p (.mv (.t 19)), some (114, false)⟩, ⟨(some 116), .p (.bin .eql (.t 115) (.c (i64 0))), some (114, false)⟩, ⟨(some 117), .p (.pick (.t 114) (.c (.bool true)) (.t 116)), some (106, true)⟩, ⟨(some 118), .p (.pick (.t 106) (.t 117) (.c (.bool false))), none⟩, ⟨(some 119), .p (.mv (.t 118)), none⟩, ⟨(some 120), .p (.mv (.t 20)), some (119, true)⟩, ⟨(some 121), .p (.mv (.t 120)), some (119, true)⟩, ⟨(some 122), .p (.mv (.t 19)), some (121, false)⟩, ⟨(some 123), .p (.bin .eql (.t 122) (.c (i64 3))), some (121, false)⟩, ⟨(some 124), .p (.pick (.t 121) (.c (.bool true)) (.t 123)), some (119, true)⟩, ⟨(some 125), .p (.pick (.t 119) (.t 124) (.c (.bool false))), none⟩, ⟨(some 12), .p (.mv (.t 125)), none⟩]) <|
  .ret
def r11 : List ARes := [.t 12]
/- archivolt/archivoltlaw02.SumsCrc -/
def c12 : ACode :=
  .seq (.reg [⟨(some 8), .p (.mv (.c (.bool false))), none⟩]) <|
  .seq (.seq (.reg [⟨(some 13), .p (.mv (.t 0)), none⟩, ⟨(some 14), .p (.lenS (.t 13)), none⟩, ⟨(some 15), .p (.bin .gtr (.t 14) (.c (i64 3000))), none⟩]) <|
  .cond (.t 15) (
    .seq (.reg [⟨(some 16), .call (.st 14) [], none⟩, ⟨(some 8), .p (.mv (.t 16)), none⟩]) <|
    .ret) (
    .skip)) <|
  .seq (.keep [0, 1, 2, 3]) <|
  .seq (.reg [⟨(some 18), .p (.mv (.t 1)), none⟩, ⟨(some 19), .p (.mv (.t 2)), none⟩, ⟨(some 20), .p (.mv (.t 3)), none⟩, ⟨(some 21), .call (.st 44) [(.t 18), (.t 19), (.t 20)], none⟩, ⟨(some 17), .p (.mv (.t 21)), none⟩, ⟨(some 22), .p (.ext (.t 17) 0), none⟩, ⟨(some 23), .p (.ext (.t 17) 1), none⟩, ⟨(some 9), .p (.mv (.t 22)), none⟩, ⟨(some 10), .p (.mv (.t 23)), none⟩]) <|
  .seq (.keep [0, 1, 2, 3, 9, 10]) <|
  .seq (.reg [⟨(some 25), .p (.mv (.t 1)), none⟩, ⟨(some 26), .p (.mv (.t 2)), none⟩, ⟨(some 27), .p (.mv (.t 3)), none⟩, ⟨(some 28), .call (.st 45) [(.t 25), (.t 26), (.t 27)], none⟩, ⟨(some 24), .p (.mv (.t 28)), none⟩, ⟨(some 29), .p (.ext (.t 24) 0), none⟩, ⟨(some 30), .p (.ext (.t 24) 1), none⟩, ⟨(some 11), .p (.mv (.t 29)), none⟩, ⟨(some 12), .p (.mv (.t 30)), none⟩]) <|
  .seq (.keep [0, 9, 10, 11, 12]) <|
  .seq (.reg [⟨(some 31), .call (.st 14) [], none⟩, ⟨(some 32), .p (.mv (.t 31)), none⟩, ⟨(some 33), .p (.mv (.t 0)), some (32, true)⟩, ⟨(some 34), .call (.st 34) [(.t 33)], some (32, true)⟩, ⟨(some 35), .p (.mv (.t 0)), some (32, true)⟩, ⟨(some 36), .call (.st 46) [(.t 35)], some (32, true)⟩, ⟨(some 37), .p (.bin .eql (.t 34) (.t 36)), some (32, true)⟩, ⟨(some 38), .p (.pick (.t 32) (.t 37) (.c (.bool false))), none⟩, ⟨(some 39), .p (.mv (.t 38)), none⟩, ⟨(some 40), .p (.mv (.t 9)), some (39, true)⟩, ⟨(some 41), .p (.mv (.t 11)), some (39, true)⟩, ⟨(some 42), .p (.bin .eql (.t 40) (.t 41)), some (39, true)⟩, ⟨(some 43), .p (.pick (.t 39) (.t 42) (.c (.bool false))), none⟩, ⟨(some 44), .p (.mv (.t 43)), none⟩, ⟨(some 45), .p (.mv (.t 10)), some (44, true)⟩, ⟨(some 46), .p (.mv (.t 12)), some (44, true)⟩, ⟨(some 47), .p (.bin .eql (.t 45) (.t 46)), some (44, true)⟩, ⟨(some 48), .p (.pick (.t 44) (.t 47) (.c (.bool false))), none⟩, ⟨(some 8), .p (.mv (.t 48)), none⟩]) <|
  .ret
def r12 : List ARes := [.t 8]
/- archivolt/archivoltlaw02.SumsJoined -/
def c13 : ACode :=
  .seq (.reg [⟨(some 14), .p (.mv (.c (.bool false))), none⟩]) <|
  .seq (.seq (.reg [⟨(some 30), .p (.mv (.t 0)), none⟩, ⟨(some 31), .p (.lenS (.t 30)), none⟩, ⟨(some 32), .p (.bin .gtr (.t 31) (.c (i64 2000))), none⟩, ⟨(some 33), .p (.mv (.t 32)), none⟩, ⟨(some 34), .p (.mv (.t 1)), some (33, false)⟩, ⟨(some 35), .p (.lenS (.t 34)), some (33, false)⟩, ⟨(some 36), .p (.bin .gtr (.t 35) (.c (i64 2000))), some (33, false)⟩, ⟨(some 37), .p (.pick (.t 33) (.c (.bool true)) (.t 36)), none⟩, ⟨(some 38), .p (.mv (.t 37)), none⟩, ⟨(some 39), .p (.mv (.t 5)), some (38, false)⟩, ⟨(some 40), .p (.bin .lss (.t 39) (.c (i64 0))), some (38, false)⟩, ⟨(some 41), .p (.pick (.t 38) (.c (.bool true)) (.t 40)), none⟩, ⟨(some 42), .p (.mv (.t 41)), none⟩, ⟨(some 43), .p (.mv (.t 6)), some (42, false)⟩, ⟨(some 44), .p (.bin .lss (.t 43) (.c (i64 0))), some (42, false)⟩, ⟨(some 45), .p (.pick (.t 42) (.c (.bool true)) (.t 44)), none⟩, ⟨(some 46), .p (.mv (.t 45)), none⟩, ⟨(some 47), .p (.mv (.t 5)), some (46, false)⟩, ⟨(some 48), .p (.bin .gtr (.t 47) (.c (i64 536870912))), some (46, false)⟩, ⟨(some 49), .p (.pick (.t 46) (.c (.bool true)) (.t 48)), none⟩, ⟨(some 50), .p (.mv (.t 49)), none⟩, ⟨(some 51), .p (.mv (.t 6)), some (50, false)⟩, ⟨(some 52), .p (.bin .gtr (.t 51) (.c (i64 536870912))), some (50, false)⟩, ⟨(some 53), .p (.pick (.t 50) (.c (.bool true)) (.t 52)), none⟩]) <|
  .seq (.keep [0, 1, 2, 3, 4, 5, 6, 53]) <|
  .cond (.t 53) (
    .seq (.reg [⟨(some 54), .call (.st 14) [], none⟩, ⟨(some 14), .p (.mv (.t 54)), none⟩]) <|
    .ret) (
    .skip)) <|
  .seq (.keep [0, 1, 2, 3, 4, 5, 6]) <|
  .seq (.reg [⟨(some 15), .p (.mv (.c .nils)), none⟩]) <|
  .seq (.reg [⟨(some 55), .p (.mv (.t 15)), none⟩, ⟨(some 56), .p (.mv (.t 0)), none⟩, ⟨(some 57), .l (.app 1 1 (.t 55) (.t 56)), none⟩, ⟨(some 15), .p (.mv (.t 57)), none⟩]) <|
  .seq (.reg [⟨(some 58), .p (.mv (.t 15)), none⟩, ⟨(some 59), .p (.mv (.t 1)), none⟩, ⟨(some 60), .l (.app 1 1 (.t 58) (.t 59)), none⟩, ⟨(some 15), .p (.mv (.t 60)), none⟩]) <|
  .seq (.reg [⟨(some 62), .p (.mv (.t 0)), none⟩, ⟨(some 63), .call (.st 34) [(.t 62)], none⟩, ⟨(some 64), .p (.mv (.t 1)), none⟩, ⟨(some 65), .call (.st 34) [(.t 64)], none⟩, ⟨(some 66), .p (.mv (.t 1)), none⟩, ⟨(some 67), .p (.lenS (.t 66)), none⟩, ⟨(some 68), .call (.st 44) [(.t 63), (.t 65), (.t 67)], none⟩, ⟨(some 61), .p (.mv (.t 68)), none⟩, ⟨(some 69), .p (.ext (.t 61) 0), none⟩, ⟨(some 70), .p (.ext (.t 61) 1), none⟩, ⟨(some 16), .p (.mv (.t 69)), none⟩, ⟨(some 17), .p (.mv (.t 70)), none⟩]) <|
  .seq (.keep [2, 3, 4, 5, 6, 15, 16, 17]) <|
  .seq (.seq (.reg [⟨(some 71), .p (.mv (.t 17)), none⟩, ⟨(some 72), .p (.bin .neq (.t 71) (.c (i64 0))), none⟩, ⟨(some 73), .p (.mv (.t 72)), none⟩, ⟨(some 74), .p (.mv (.t 16)), some (73, false)⟩, ⟨(some 75), .p (.mv (.t 15)), some (73, false)⟩, ⟨(some 76), .call (.st 34) [(.t 75)], some (73, false)⟩, ⟨(some 77), .p (.bin .neq (.t 74) (.t 76)), some (73, false)⟩, ⟨(some 78), .p (.pick (.t 73) (.c (.bool true)) (.t 77)), none⟩]) <|
  .seq (.keep [2, 3, 4, 5, 6, 78]) <|
  .cond (.t 78) (
    .seq (.reg [⟨(some 14), .p (.mv (.c (.bool false))), none⟩]) <|
    .ret) (
    .skip)) <|
  .seq (.keep [2, 3, 4, 5, 6]) <|
  .seq (.reg [⟨(some 80), .p (.mv (.t 2)), none⟩, ⟨(some 81), .p (.mv (.t 3)), none⟩, ⟨(some 82), .p (.mv (.t 5)), none⟩, ⟨(some 83), .call (.st 44) [(.t 80), (.t 81), (.t 82)], none⟩, ⟨(some 79), .p (.mv (.t 83)), none⟩, ⟨(some 84), .p (.ext (.t 79) 0), none⟩, ⟨(some 85), .p (.ext (.t 79) 1), none⟩, ⟨(some 18), .p (.mv (.t 84)), none⟩, ⟨(some 17), .p (.mv (.t 85)), none⟩]) <|
  .seq (.keep [2, 3, 4, 5, 6, 17, 18]) <|
  .seq (.reg [⟨(some 87), .p (.mv (.t 18)), none⟩, ⟨(some 88), .p (.mv (.t 4)), none⟩, ⟨(some 89), .p (.mv (.t 6)), none⟩, ⟨(some 90), .call (.st 44) [(.t 87), (.t 88), (.t 89)], none⟩, ⟨(some 86), .p (.mv (.t 90)), none⟩, ⟨(some 91), .p (.ext (.t 86) 0), none⟩, ⟨(some 92), .p (.ext (.t 86) 1), none⟩, ⟨(some 19), .p (.mv (.t 91)), none⟩, ⟨(some 20), .p (.mv (.t 92)), none⟩]) <|
  .seq (.keep [2, 3, 4, 5, 6, 17, 19, 20]) <|
  .seq (.reg [⟨(some 94), .p (.mv (.t 3)), none⟩, ⟨(some 95), .p (.mv (.t 4)), none⟩, ⟨(some 96), .p (.mv (.t 6)), none⟩, ⟨(some 97), .call (.st 44) [(.t 94), (.t 95), (.t 96)], none⟩, ⟨(some 93), .p (.mv (.t 97)), none⟩, ⟨(some 98), .p (.ext (.t 93) 0), none⟩, ⟨(some 99), .p (.ext (.t 93) 1), none⟩, ⟨(some 21), .p (.mv (.t 98)), none⟩, ⟨(some 22), .p (.mv (.t 99)), none⟩]) <|
  .seq (.keep [2, 3, 5, 6, 17, 19, 20, 21, 22]) <|
  .seq (.reg [⟨(some 101), .p (.mv (.t 2)), none⟩, ⟨(some 102), .p (.mv (.t 21)), none⟩, ⟨(some 103), .p (.mv (.t 5)), none⟩, ⟨(some 104), .p (.mv (.t 6)), none⟩, ⟨(some 105), .p (.bin .add (.t 103) (.t 104)), none⟩, ⟨(some 106), .call (.st 44) [(.t 101), (.t 102), (.t 105)], none⟩, ⟨(some 100), .p (.mv (.t 106)), none⟩, ⟨(some 107), .p (.ext (.t 100) 0), none⟩, ⟨(some 108), .p (.ext (.t 100) 1), none⟩, ⟨(some 23), .p (.mv (.t 107)), none⟩, ⟨(some 24), .p (.mv (.t 108)), none⟩]) <|
  .seq (.keep [2, 3, 5, 17, 19, 20, 22, 23, 24]) <|
  .seq (.reg [⟨(some 110), .p (.mv (.t 2)), none⟩, ⟨(some 111), .call (.st 44) [(.t 110), (.c (u32 0)), (.c (i64 0))], none⟩, ⟨(some 109), .p (.mv (.t 111)), none⟩, ⟨(some 112), .p (.ext (.t 109) 0), none⟩, ⟨(some 113), .p (.ext (.t 109) 1), none⟩, ⟨(some 25), .p (.mv (.t 112)), none⟩, ⟨(some 26), .p (.mv (.t 113)), none⟩]) <|
  .seq (.keep [2, 3, 5, 17, 19, 20, 22, 23, 24, 25, 26]) <|
  .seq (.reg [⟨(some 115), .p (.mv (.t 3)), none⟩, ⟨(some 116), .p (.mv (.t 5)), none⟩, ⟨(some 117), .call (.st 44) [(.c (u32 0)), (.t 115), (.t 116)], none⟩, ⟨(some 114), .p (.mv (.t 117)), none⟩, ⟨(some 118), .p (.ext (.t 114) 0), none⟩, ⟨(some 119), .p (.ext (.t 114) 1), none⟩, ⟨(some 27), .p (.mv (.t 118)), none⟩, ⟨(some 28), .p (.mv (.t 119)), none⟩]) <|
  .seq (.keep [2, 3, 17, 19, 20, 22, 23, 24, 25, 26, 27, 28]) <|
  .seq (.reg [⟨(some 120), .p (.mv (.t 17)), none⟩, ⟨(some 121), .p (.bin .eql (.t 120) (.c (i64 0))), none⟩, ⟨(some 122), .p (.mv (.t 121)), none⟩, ⟨(some 123), .p (.mv (.t 20)), some (122, true)⟩, ⟨(some 124), .p (.bin .eql (.t 123) (.c (i64 0))), some (122, true)⟩, ⟨(some 125), .p (.pick (.t 122) (.t 124) (.c (.bool false))), none⟩, ⟨(some 126), .p (.mv (.t 125)), none⟩, ⟨(some 127), .p (.mv (.t 22)), some (126, true)⟩, ⟨(some 128), .p (.bin .eql (.t 127) (.c (i64 0))), some (126, true)⟩, ⟨(some 129), .p (.pick (.t 126) (.t 128) (.c (.bool false))), none⟩, ⟨(some 130), .p (.mv (.t 129)), none⟩, ⟨(some 131), .p (.mv (.t 24)), some (130, true)⟩, ⟨(some 132), .p (.bin .eql (.t 131) (.c (i64 0))), some (130, true)⟩, ⟨(some 133), .p (.pick (.t 130) (.t 132) (.c (.bool false))), none⟩, ⟨(some 134), .p (.mv (.t 133)), none⟩, ⟨(some 135), .p (.mv (.t 26)), some (134, true)⟩, ⟨(some 136), .p (.bin .eql (.t 135) (.c (i64 0))), some (134, true)⟩, ⟨(some 137), .p (.pick (.t 134) (.t 136) (.c (.bool false))), none⟩, ⟨(some 138), .p (.mv (.t 137)), none⟩, ⟨(some 139), .p (.mv (.t 28)), some (138, true)⟩, ⟨(some 140), .p (.bin .eql (.t 139) (.c (i64 0))), some (138, true)⟩, ⟨(some 141), .p (.pick (.t 138) (.t 140) (.c (.bool false))), none⟩, ⟨(some 29), .p (.mv (.t 141)), none⟩]) <|
  .seq (.keep [2, 3, 19, 23, 25, 27, 29]) <|
  .seq (.reg [⟨(some 142), .call (.st 14) [], none⟩, ⟨(some 143), .p (.mv (.t 142)), none⟩, ⟨(some 144), .p (.mv (.t 29)), some (143, true)⟩, ⟨(some 145), .p (.pick (.t 143) (.t 144) (.c (.bool false))), none⟩, ⟨(some 146), .p (.mv (.t 145)), none⟩, ⟨(some 147), .p (.mv (.t 19)), some (146, true)⟩, ⟨(some 148), .p (.mv (.t 23)), some (146, true)⟩, ⟨(some 149), .p (.bin .eql (.t 147) (.t 148)), some (146, true)⟩, ⟨(some 150), .p (.pick (.t 146) (.t 149) (.c (.bool false))), none⟩, ⟨(some 151), .p (.mv (.t 150)), none⟩, ⟨(some 152), .p (.mv (.t 25)), some (151, true)⟩, ⟨(some 153), .p (.mv (.t 2)), some (151, true)⟩, ⟨(some 154), .p (.bin .eql (.t 152) (.t 153)), some (151, true)⟩, ⟨(some 155), .p (.pick (.t 151) (.t 154) (.c (.bool false))), none⟩, ⟨(some 156), .p (.mv (.t 155)), none⟩, ⟨(some 157), .p (.mv (.t 27)), some (156, true)⟩, ⟨(some 158), .p (.mv (.t 3)), some (156, true)⟩, ⟨(some 159), .p (.bin .eql (.t 157) (.t 158)), some (156, true)⟩, ⟨(some 160), .p (.pick (.t 156) (.t 159) (.c (.bool false))), none⟩, ⟨(some 161), .p (.mv (.t 160)), none⟩, ⟨(some 162), .call (.st 34) [(.c .nils)], some (161, true)⟩, ⟨(some 163), .p (.bin .eql (.t 162) (.c (u32 0))), some (161, true)⟩, ⟨(some 164), .p (.pick (.t 161) (.t 163) (.c (.bool false))), none⟩, ⟨(some 14), .p (.mv (.t 164)), none⟩]) <|
  .ret
def r13 : List ARes := [.t 14]
/- archivolt/archivoltlaw02.sane -/
def c14 : ACode :=
  .seq (.reg [⟨(some 0), .p (.mv (.c (.bool false))), none⟩]) <|
  .seq (.reg [⟨(some 15), .n (.bsl 3 1 [(u8 0)] [(0, 1, (.c (u8 1))), (1, 1, (.c (u8 2))), (2, 1, (.c (u8 3)))]), none⟩, ⟨(some 16), .call (.st 19) [(.t 15)], none⟩, ⟨(some 1), .n (.alloc [(u32 0), (u32 0), (i64 0)]), none⟩, ⟨none, .l (.stN 3 (.t 1) (.t 16)), none⟩]) <|
  .seq (.reg [⟨(some 18), .r (.ldN 3 (.t 1)), none⟩, ⟨(some 19), .call (.st 15) [(.t 18), (.c (u8 1)), (.c (u8 4))], none⟩, ⟨(some 17), .p (.mv (.t 19)), none⟩, ⟨(some 20), .p (.ext (.t 17) 0), none⟩, ⟨(some 21), .p (.ext (.t 17) 1), none⟩, ⟨(some 2), .n (.alloc [(u32 0), (u32 0), (i64 0)]), none⟩, ⟨none, .l (.stN 3 (.t 2) (.t 20)), none⟩, ⟨(some 3), .p (.mv (.t 21)), none⟩]) <|
  .seq (.keep [1, 2, 3]) <|
  .seq (.reg [⟨(some 23), .n (.bsl 4 1 [(u8 0)] [(0, 1, (.c (u8 1))), (1, 1, (.c (u8 2))), (2, 1, (.c (u8 3))), (3, 1, (.c (u8 4)))]), none⟩, ⟨(some 24), .call (.st 17) [(.t 23), (.c (i64 3))], none⟩, ⟨(some 22), .p (.mv (.t 24)), none⟩, ⟨(some 25), .p (.ext (.t 22) 0), none⟩, ⟨(some 26), .p (.ext (.t 22) 1), none⟩, ⟨(some 4), .p (.mv (.t 25)), none⟩, ⟨(some 5), .p (.mv (.t 26)), none⟩]) <|
  .seq (.keep [1, 2, 3, 4, 5]) <|
  .seq (.reg [⟨(some 28), .call (.st 35) [], none⟩, ⟨(some 29), .call (.st 37) [(.t 28)], none⟩, ⟨(some 27), .p (.mv (.t 29)), none⟩, ⟨(some 30), .p (.ext (.t 27) 0), none⟩, ⟨(some 31), .p (.ext (.t 27) 1), none⟩, ⟨(some 6), .n (.alloc (List.replicate 16 (u8 0))), none⟩, ⟨none, .l (.stN 16 (.t 6) (.t 30)), none⟩, ⟨(some 7), .p (.mv (.t 31)), none⟩]) <|
  .seq (.keep [1, 2, 3, 4, 5, 6, 7]) <|
  .seq (.reg [⟨(some 32), .n (.bsl 1 1 [(u8 0)] [(0, 1, (.c (u8 1)))]), none⟩, ⟨(some 33), .n (.bsl 1 1 [(u8 0)] [(0, 1, (.c (u8 2)))]), none⟩, ⟨(some 34), .n (.bsl 1 1 [(u8 0)] [(0, 1, (.c (u8 3)))]), none⟩, ⟨(some 35), .n (.bsl 3 1 [.nils] [(0, 1, (.t 32)), (1, 1, (.t 33)), (2, 1, (.t 34))]), none⟩, ⟨(some 8), .p (.mv (.t 35)), none⟩]) <|
  .seq (.reg [⟨(some 37), .p (.mv (.t 8)), none⟩, ⟨(some 38), .call (.st 25) [(.t 37)], none⟩, ⟨(some 36), .p (.mv (.t 38)), none⟩, ⟨(some 39), .p (.ext (.t 36) 0), none⟩, ⟨(some 40), .p (.ext (.t 36) 1), none⟩, ⟨(some 9), .n (.alloc (List.replicate 16 (u8 0))), none⟩, ⟨none, .l (.stN 16 (.t 9) (.t 39)), none⟩, ⟨(some 10), .p (.mv (.t 40)), none⟩]) <|
  .seq (.keep [1, 2, 3, 4, 5, 6, 7, 8, 9, 10]) <|
  .seq (.reg [⟨(some 42), .p (.mv (.t 8)), none⟩, ⟨(some 43), .call (.st 27) [(.t 42), (.c (i64 2))], none⟩, ⟨(some 41), .p (.mv (.t 43)), none⟩, ⟨(some 44), .p (.ext (.t 41) 0), none⟩, ⟨(some 45), .p (.ext (.t 41) 1), none⟩, ⟨(some 11), .p (.mv (.t 44)), none⟩, ⟨(some 12), .p (.mv (.t 45)), none⟩]) <|
  .seq (.keep [1, 2, 3, 4, 5, 6, 7, 9, 10, 11, 12]) <|
  .seq (.seq (.reg [⟨(some 46), .p (.mv (.t 3)), none⟩, ⟨(some 47), .p (.bin .neq (.t 46) (.c (i64 0))), none⟩, ⟨(some 48), .p (.mv (.t 47)), none⟩, ⟨(some 49), .p (.mv (.t 5)), some (48, false)⟩, ⟨(some 50), .p (.bin .neq (.t 49) (.c (i64 0))), some (48, false)⟩, ⟨(some 51), .p (.pick (.t 48) (.c (.bool true)) (.t 50)), none⟩, ⟨(some 52), .p (.mv (.t 51)), none⟩, ⟨(some 53), .p (.mv (.t 7)), some (52, false)⟩, ⟨(some 54), .p (.bin .neq (.t 53) (.c (i64 0))), some (52, false)⟩, ⟨(some 55), .p (.pick (.t 52) (.c (.bool true)) (.t 54)), none⟩, ⟨(some 56), .p (.mv (.t 55)), none⟩, ⟨(some 57), .p (.mv (.t 10)), some (56, false)⟩, ⟨(some 58), .p (.bin .neq (.t 57) (.c (i64 0))), some (56, false)⟩, ⟨(some 59), .p (.pick (.t 56) (.c (.bool true)) (.t 58)), none⟩, ⟨(some 60), .p (.mv (.t 59)), none⟩, ⟨(some 61), .p (.mv (.t 12)), some (60, false)⟩, ⟨(some 62), .p (.bin .neq (.t 61) (.c (i64 0))), some (60, false)⟩, ⟨(some 63), .p (.pick (.t 60) (.c (.bool true)) (.t 62)), none⟩, ⟨(some 64), .p (.mv (.t 63)), none⟩, ⟨(some 65), .p (.mv (.t 4)), some (64, false)⟩, ⟨(some 66), .p (.lenS (.t 65)), some (64, false)⟩, ⟨(some 67), .p (.bin .neq (.t 66) (.c (i64 2))), some (64, false)⟩, ⟨(some 68), .p (.pick (.t 64) (.c (.bool true)) (.t 67)), none⟩, ⟨(some 69), .p (.mv (.t 68)), none⟩, ⟨(some 70), .p (.mv (.t 11)), some (69, false)⟩, ⟨(some 71), .p (.lenS (.t 70)), some (69, false)⟩, ⟨(some 72), .p (.bin .neq (.t 71) (.c (i64 1))), some (69, false)⟩, ⟨(some 73), .p (.pick (.t 69) (.c (.bool true)) (.t 72)), none⟩]) <|
  .seq (.keep [1, 2, 4, 6, 9, 11, 73]) <|
  .cond (.t 73) (
    .seq (.reg [⟨(some 0), .p (.mv (.c (.bool false))), none⟩]) <|
    .ret) (
    .skip)) <|
  .seq (.keep [1, 2, 4, 6, 9, 11]) <|
  .seq (.seq (.drw [(⟨(some 74), .r (.ldN 3 (.t 1)), none⟩, [], false), (⟨(some 75), .p (.build [(u32 0), (u32 0), (i64 0)] [(0, 1, (.c (u32 6))), (1, 1, (.c (u32 10))), (2, 1, (.c (i64 3)))]), none⟩, [], false), (⟨(some 76), .p (.eqv true (.flat [.int, .int, .int]) (.t 74) (.t 75)), none⟩, [], true), (⟨(some 77), .p (.mv (.t 76)), none⟩, [], true), (⟨(some 78), .r (.ldN 3 (.t 2)), some (77, false)⟩, [], false), (⟨(some 79), .p (.build [(u32 0), (u32 0), (i64 0)] [(0, 1, (.c (u32 9))), (1, 1, (.c (u32 16))), (2, 1, (.c (i64 3)))]), some (77, false)⟩, [], false), (⟨(some 80), .p (.eqv true (.flat [.int, .int, .int]) (.t 78) (.t 79)), some (77, false)⟩, [], true), (⟨(some 81), .p (.pick (.t 77) (.c (.bool true)) (.t 80)), none⟩, [], true), (⟨(some 82), .p (.mv (.t 81)), none⟩, [], true), (⟨(some 83), .p (.mv (.t 4)), some (82, false)⟩, [], true), (⟨(some 84), .p (.idxS 1 (.t 83) (.c (i64 0))), some (82, false)⟩, [], true), (⟨(some 85), .r (.ld (.t 84)), some (82, false)⟩, [], true), (⟨(some 86), .p (.bin .neq (.t 85) (.c (u32 655366))), some (82, false)⟩, [], true), (⟨(some 87), .p (.pick (.t 82) (.c (.bool true)) (.t 86)), none⟩, [], true), (⟨(some 88), .p (.mv (.t 87)), none⟩, [], true), (⟨(some 89), .p (.mv (.t 4)), some (88, false)⟩, [], true), (⟨(some 90), .p (.idxS 1 (.t 89) (.c (i64 1))), some (88, false)⟩, [], true), (⟨(some 91), .r (.ld (.t 90)), some (88, false)⟩, [], true), (⟨(some 92), .p (.bin .neq (.t 91) (.c (u32 1048585))), some (88, false)⟩, [], true), (⟨(some 93), .p (.pick (.t 88) (.c (.bool true)) (.t 92)), none⟩, [], true), (⟨(some 94), .p (.mv (.t 93)), none⟩, [], true), (⟨(some 96), .call (.st 39) [(.c .nils)], some (94, false)⟩, [], false), (⟨(some 95), .r (.ldN 16 (.t 6)), some (94, false)⟩, [0], false), (⟨(some 97), .p (.eqv true (.flat [.int, .int, .int, .int, .int, .int, .int, .int, .int, .int, .int, .int, .int, .int, .int, .int]) (.t 95) (.t 96)), some (94, false)⟩, [], true), (⟨(some 98), .p (.pick (.t 94) (.c (.bool true)) (.t 97)), none⟩, [], true)]) <|
  .seq (.keep [9, 11, 98]) <|
  .cond (.t 98) (
    .seq (.reg [⟨(some 0), .p (.mv (.c (.bool false))), none⟩]) <|
    .ret) (
    .skip)) <|
  .seq (.keep [9, 11]) <|
  .seq (.reg [⟨(some 100), .n (.bsl 1 1 [(u8 0)] [(0, 1, (.c (u8 1)))]), none⟩, ⟨(some 101), .p (.mv (.t 11)), none⟩, ⟨(some 102), .call (.st 30) [(.c (i64 3)), (.c (i64 0)), (.t 100), (.t 101)], none⟩, ⟨(some 99), .p (.mv (.t 102)), none⟩, ⟨(some 103), .p (.ext (.t 99) 0), none⟩, ⟨(some 104), .p (.ext (.t 99) 1), none⟩, ⟨(some 13), .n (.alloc (List.replicate 16 (u8 0))), none⟩, ⟨none, .l (.stN 16 (.t 13) (.t 103)), none⟩, ⟨(some 14), .p (.mv (.t 104)), none⟩]) <|
  .seq (.keep [9, 11, 14]) <|
  .seq (.reg [⟨(some 105), .r (.ldN 16 (.t 9)), none⟩, ⟨(some 106), .n (.bsl 1 1 [(u8 0)] [(0, 1, (.c (u8 3)))]), none⟩, ⟨(some 107), .p (.mv (.t 11)), none⟩, ⟨(some 108), .call (.st 32) [(.t 105), (.c (i64 3)), (.c (i64 2)), (.t 106), (.t 107)], none⟩, ⟨(some 109), .p (.bin .eql (.t 108) (.c (i64 0))), none⟩, ⟨(some 110), .p (.mv (.t 109)), none⟩, ⟨(some 111), .r (.ldN 16 (.t 9)), some (110, true)⟩, ⟨(some 112), .n (.bsl 1 1 [(u8 0)] [(0, 1, (.c (u8 4)))]), some (110, true)⟩, ⟨(some 113), .p (.mv (.t 11)), some (110, true)⟩, ⟨(some 114), .call (.st 32) [(.t 111), (.c (i64 3)), (.c (i64 2)), (.t 112), (.t 113)], some (110, true)⟩, ⟨(some 115), .p (.bin .eql (.t 114) (.c (i64 22))), some (110, true)⟩, ⟨(some 116), .p (.pick (.t 110) (.t 115) (.c (.bool false))), none⟩, ⟨(some 117), .p (.mv (.t 116)), none⟩, ⟨(some 118), .p (.mv (.t 14)), some (117, true)⟩, ⟨(some 119), .p (.bin .eql (.t 118) (.c (i64 22))), some (117, true)⟩, ⟨(some 120), .p (.pick (.t 117) (.t 119) (.c (.bool false))), none⟩, ⟨(some 121), .p (.mv (.t 120)), none⟩, ⟨(some 122), .n (.bsl 1 1 [(u8 0)] [(0, 1, (.c (u8 97)))]), some (121, true)⟩, ⟨(some 123), .l (.mark (.t 122)), some (121, true)⟩, ⟨(some 124), .call (.st 34) [(.t 123)], some (121, true)⟩, ⟨(some 125), .n (.bsl 1 1 [(u8 0)] [(0, 1, (.c (u8 98)))]), some (121, true)⟩, ⟨(some 126), .l (.mark (.t 125)), some (121, true)⟩, ⟨(some 127), .call (.st 34) [(.t 126)], some (121, true)⟩, ⟨(some 128), .p (.bin .neq (.t 124) (.t 127)), some (121, true)⟩, ⟨(some 129), .p (.pick (.t 121) (.t 128) (.c (.bool false))), none⟩, ⟨(some 0), .p (.mv (.t 129)), none⟩]) <|
  .ret
def r14 : List ARes := [.t 0]
/- archivolt/sums.Slide -/
def c15 : ACode :=
  .seq (.reg [⟨(some 3), .n (.box (.t 0)), none⟩, ⟨(some 6), .n (.alloc [(u32 0), (u32 0), (i64 0)]), none⟩, ⟨(some 7), .p (.mv (.c (i64 0))), none⟩]) <|
  .seq (.seq (.reg [⟨(some 9), .p (.fieldA 0 (.t 3)), none⟩, ⟨(some 10), .r (.ld (.t 9)), none⟩, ⟨(some 11), .p (.bin .geq (.t 10) (.c (u32 65521))), none⟩, ⟨(some 12), .p (.mv (.t 11)), none⟩, ⟨(some 13), .p (.fieldA 1 (.t 3)), some (12, false)⟩, ⟨(some 14), .r (.ld (.t 13)), some (12, false)⟩, ⟨(some 15), .p (.bin .geq (.t 14) (.c (u32 65521))), some (12, false)⟩, ⟨(some 16), .p (.pick (.t 12) (.c (.bool true)) (.t 15)), none⟩, ⟨(some 17), .p (.mv (.t 16)), none⟩, ⟨(some 18), .p (.fieldA 2 (.t 3)), some (17, false)⟩, ⟨(some 19), .r (.ld (.t 18)), some (17, false)⟩, ⟨(some 20), .p (.bin .lss (.t 19) (.c (i64 1))), some (17, false)⟩, ⟨(some 21), .p (.pick (.t 17) (.c (.bool true)) (.t 20)), none⟩, ⟨(some 22), .p (.mv (.t 21)), none⟩, ⟨(some 23), .p (.fieldA 2 (.t 3)), some (22, false)⟩, ⟨(some 24), .r (.ld (.t 23)), some (22, false)⟩, ⟨(some 25), .p (.bin .gtr (.t 24) (.c (i64 2147483647))), some (22, false)⟩, ⟨(some 26), .p (.pick (.t 22) (.c (.bool true)) (.t 25)), none⟩]) <|
  .seq (.keep [1, 2, 3, 6, 26]) <|
  .cond (.t 26) (
    .seq (.reg [⟨(some 27), .p (.build [(u32 0), (u32 0), (i64 0)] []), none⟩, ⟨none, .l (.stN 3 (.t 6) (.t 27)), none⟩, ⟨(some 7), .p (.mv (.c (i64 1))), none⟩]) <|
    .ret) (
    .skip)) <|
  .seq (.keep [1, 2, 3, 6]) <|
  .seq (.reg [⟨(some 28), .p (.fieldA 2 (.t 3)), none⟩, ⟨(some 29), .r (.ld (.t 28)), none⟩, ⟨(some 30), .p (.bin .rem (.t 29) (.c (i64 65521))), none⟩, ⟨(some 31), .p (.conv .u64 (.t 30)), none⟩, ⟨(some 32), .p (.mv (.t 1)), none⟩, ⟨(some 33), .p (.conv .u64 (.t 32)), none⟩, ⟨(some 34), .p (.bin .mul (.t 31) (.t 33)), none⟩, ⟨(some 35), .p (.bin .rem (.t 34) (.c (u64 65521))), none⟩, ⟨(some 36), .p (.conv .u32 (.t 35)), none⟩, ⟨(some 8), .p (.mv (.t 36)), none⟩]) <|
  .seq (.keep [1, 2, 3, 6, 8]) <|
  .seq (.reg [⟨(some 37), .p (.fieldA 0 (.t 3)), none⟩, ⟨(some 38), .r (.ld (.t 37)), none⟩, ⟨(some 39), .p (.bin .add (.t 38) (.c (u32 65521))), none⟩, ⟨(some 40), .p (.mv (.t 1)), none⟩, ⟨(some 41), .p (.conv .u32 (.t 40)), none⟩, ⟨(some 42), .p (.bin .sub (.t 39) (.t 41)), none⟩, ⟨(some 43), .p (.mv (.t 2)), none⟩, ⟨(some 44), .p (.conv .u32 (.t 43)), none⟩, ⟨(some 45), .p (.bin .add (.t 42) (.t 44)), none⟩, ⟨(some 46), .p (.bin .rem (.t 45) (.c (u32 65521))), none⟩, ⟨(some 47), .p (.fieldA 0 (.t 3)), none⟩, ⟨none, .l (.st (.t 47) (.t 46)), none⟩]) <|
  .seq (.keep [3, 6, 8]) <|
  .seq (.reg [⟨(some 48), .p (.fieldA 1 (.t 3)), none⟩, ⟨(some 49), .r (.ld (.t 48)), none⟩, ⟨(some 50), .p (.bin .add (.t 49) (.c (u32 65521))), none⟩, ⟨(some 51), .p (.mv (.t 8)), none⟩, ⟨(some 52), .p (.bin .sub (.t 50) (.t 51)), none⟩, ⟨(some 53), .p (.fieldA 0 (.t 3)), none⟩, ⟨(some 54), .r (.ld (.t 53)), none⟩, ⟨(some 55), .p (.bin .add (.t 52) (.t 54)), none⟩, ⟨(some 56), .p (.bin .rem (.t 55) (.c (u32 65521))), none⟩, ⟨(some 57), .p (.fieldA 1 (.t 3)), none⟩, ⟨none, .l (.st (.t 57) (.t 56)), none⟩]) <|
  .seq (.keep [3, 6]) <|
  .seq (.reg [⟨(some 58), .r (.ldN 3 (.t 3)), none⟩, ⟨none, .l (.stN 3 (.t 6) (.t 58)), none⟩, ⟨(some 7), .p (.mv (.c (i64 0))), none⟩]) <|
  .ret
def r15 : List ARes := [.cell 6 (some 3), .t 7]
/- archivolt/archivoltref02.Slide -/
def c16 : ACode :=
  .seq (.reg [⟨(some 3), .n (.box (.t 0)), none⟩, ⟨(some 6), .n (.alloc [(u32 0), (u32 0), (i64 0)]), none⟩, ⟨(some 7), .p (.mv (.c (i64 0))), none⟩]) <|
  .seq (.seq (.reg [⟨(some 11), .r (.ldN 3 (.t 3)), none⟩, ⟨(some 12), .call (.st 47) [(.t 11)], none⟩, ⟨(some 13), .p (.un .not (.t 12)), none⟩, ⟨(some 14), .p (.mv (.t 13)), none⟩, ⟨(some 15), .p (.fieldA 2 (.t 3)), some (14, false)⟩, ⟨(some 16), .r (.ld (.t 15)), some (14, false)⟩, ⟨(some 17), .p (.bin .eql (.t 16) (.c (i64 0))), some (14, false)⟩, ⟨(some 18), .p (.pick (.t 14) (.c (.bool true)) (.t 17)), none⟩]) <|
  .seq (.keep [1, 2, 3, 6, 18]) <|
  .cond (.t 18) (
    .seq (.reg [⟨(some 19), .p (.build [(u32 0), (u32 0), (i64 0)] []), none⟩, ⟨none, .l (.stN 3 (.t 6) (.t 19)), none⟩, ⟨(some 7), .p (.mv (.c (i64 1))), none⟩]) <|
    .ret) (
    .skip)) <|
  .seq (.keep [1, 2, 3, 6]) <|
  .seq (.reg [⟨(some 20), .p (.fieldA 0 (.t 3)), none⟩, ⟨(some 21), .r (.ld (.t 20)), none⟩, ⟨(some 22), .p (.conv .i64 (.t 21)), none⟩, ⟨(some 23), .p (.bin .add (.t 22) (.c (i64 65521))), none⟩, ⟨(some 24), .p (.mv (.t 1)), none⟩, ⟨(some 25), .p (.conv .i64 (.t 24)), none⟩, ⟨(some 26), .p (.bin .sub (.t 23) (.t 25)), none⟩, ⟨(some 27), .p (.mv (.t 2)), none⟩, ⟨(some 28), .p (.conv .i64 (.t 27)), none⟩, ⟨(some 29), .p (.bin .add (.t 26) (.t 28)), none⟩, ⟨(some 30), .p (.bin .rem (.t 29) (.c (i64 65521))), none⟩, ⟨(some 8), .p (.mv (.t 30)), none⟩]) <|
  .seq (.keep [1, 3, 6, 8]) <|
  .seq (.reg [⟨(some 31), .p (.fieldA 2 (.t 3)), none⟩, ⟨(some 32), .r (.ld (.t 31)), none⟩, ⟨(some 33), .p (.bin .rem (.t 32) (.c (i64 65521))), none⟩, ⟨(some 34), .p (.mv (.t 1)), none⟩, ⟨(some 35), .p (.conv .i64 (.t 34)), none⟩, ⟨(some 36), .p (.bin .mul (.t 33) (.t 35)), none⟩, ⟨(some 37), .p (.bin .rem (.t 36) (.c (i64 65521))), none⟩, ⟨(some 9), .p (.mv (.t 37)), none⟩]) <|
  .seq (.keep [3, 6, 8, 9]) <|
  .seq (.reg [⟨(some 38), .p (.fieldA 1 (.t 3)), none⟩, ⟨(some 39), .r (.ld (.t 38)), none⟩, ⟨(some 40), .p (.conv .i64 (.t 39)), none⟩, ⟨(some 41), .p (.bin .add (.t 40) (.c (i64 65521))), none⟩, ⟨(some 42), .p (.mv (.t 9)), none⟩, ⟨(some 43), .p (.bin .sub (.t 41) (.t 42)), none⟩, ⟨(some 44), .p (.mv (.t 8)), none⟩, ⟨(some 45), .p (.bin .add (.t 43) (.t 44)), none⟩, ⟨(some 46), .p (.bin .rem (.t 45) (.c (i64 65521))), none⟩, ⟨(some 10), .p (.mv (.t 46)), none⟩]) <|
  .seq (.keep [3, 6, 8, 10]) <|
  .seq (.reg [⟨(some 47), .p (.mv (.t 8)), none⟩, ⟨(some 48), .p (.conv .u32 (.t 47)), none⟩, ⟨(some 49), .p (.mv (.t 10)), none⟩, ⟨(some 50), .p (.conv .u32 (.t 49)), none⟩, ⟨(some 51), .p (.fieldA 2 (.t 3)), none⟩, ⟨(some 52), .r (.ld (.t 51)), none⟩, ⟨(some 53), .p (.build [(u32 0), (u32 0), (i64 0)] [(0, 1, (.t 48)), (1, 1, (.t 50)), (2, 1, (.t 52))]), none⟩, ⟨none, .l (.stN 3 (.t 6) (.t 53)), none⟩, ⟨(some 7), .p (.mv (.c (i64 0))), none⟩]) <|
  .ret
def r16 : List ARes := [.cell 6 (some 3), .t 7]
/- archivolt/sums.Windows -/
def c17_0 : ACode :=
  .seq (.seq (.reg [⟨(some 23), .p (.mv (.t 8)), none⟩, ⟨(some 24), .p (.mv (.t 0)), none⟩, ⟨(some 25), .p (.lenS (.t 24)), none⟩, ⟨(some 26), .p (.bin .lss (.t 23) (.t 25)), none⟩]) <|
  .cond (.t 26) (
    .skip) (
    .exit 0)) <|
  .seq (.keep [0, 1, 6, 7, 8]) <|
  .seq (.blk 1 (
    .seq (.drw [(⟨(some 30), .r (.ldN 3 (.t 6)), none⟩, [], false), (⟨(some 31), .p (.mv (.t 0)), none⟩, [], false), (⟨(some 32), .p (.mv (.t 8)), none⟩, [], false), (⟨(some 33), .p (.mv (.t 1)), none⟩, [], false), (⟨(some 34), .p (.bin .sub (.t 32) (.t 33)), none⟩, [], false), (⟨(some 35), .p (.idxS 1 (.t 31) (.t 34)), none⟩, [], false), (⟨(some 36), .r (.ld (.t 35)), none⟩, [], false), (⟨(some 37), .p (.mv (.t 0)), none⟩, [], false), (⟨(some 38), .p (.mv (.t 8)), none⟩, [], false), (⟨(some 39), .p (.idxS 1 (.t 37) (.t 38)), none⟩, [], false), (⟨(some 40), .r (.ld (.t 39)), none⟩, [], false), (⟨(some 41), .call (.st 15) [(.t 30), (.t 36), (.t 40)], none⟩, [], true), (⟨(some 29), .p (.mv (.t 41)), none⟩, [], true), (⟨(some 42), .p (.ext (.t 29) 0), none⟩, [], false), (⟨none, .l (.stN 3 (.t 6) (.t 42)), none⟩, [], false), (⟨(some 43), .p (.ext (.t 29) 1), none⟩, [1], false)]) <|
    .seq (.keep [0, 1, 6, 7, 8]) <|
    .reg [⟨(some 44), .p (.mv (.t 7)), none⟩, ⟨(some 45), .r (.ldN 3 (.t 6)), none⟩, ⟨(some 46), .call (.st 21) [(.t 45)], none⟩, ⟨(some 47), .n (.bsl 1 1 [(u32 0)] [(0, 1, (.t 46))]), none⟩, ⟨(some 48), .l (.app 1 4 (.t 44) (.t 47)), none⟩, ⟨(some 7), .p (.mv (.t 48)), none⟩])) <|
  .seq (.keep [0, 1, 6, 7, 8]) <|
  .reg [⟨(some 27), .p (.mv (.t 8)), none⟩, ⟨(some 28), .p (.bin .add (.t 27) (.c (i64 1))), none⟩, ⟨(some 8), .p (.mv (.t 28)), none⟩]
def c17 : ACode :=
  .seq (.reg [⟨(some 4), .p (.mv (.c .nils)), none⟩, ⟨(some 5), .p (.mv (.c (i64 0))), none⟩]) <|
  .seq (.seq (.reg [⟨(some 9), .p (.mv (.t 1)), none⟩, ⟨(some 10), .p (.bin .lss (.t 9) (.c (i64 1))), none⟩]) <|
  .cond (.t 10) (
    .seq (.reg [⟨(some 4), .p (.mv (.c .nils)), none⟩, ⟨(some 5), .p (.mv (.c (i64 1))), none⟩]) <|
    .ret) (
    .skip)) <|
  .seq (.keep [0, 1]) <|
  .seq (.seq (.reg [⟨(some 11), .p (.mv (.t 1)), none⟩, ⟨(some 12), .p (.mv (.t 0)), none⟩, ⟨(some 13), .p (.lenS (.t 12)), none⟩, ⟨(some 14), .p (.bin .gtr (.t 11) (.t 13)), none⟩]) <|
  .cond (.t 14) (
    .seq (.reg [⟨(some 4), .p (.mv (.c .nils)), none⟩, ⟨(some 5), .p (.mv (.c (i64 0))), none⟩]) <|
    .ret) (
    .skip)) <|
  .seq (.keep [0, 1]) <|
  .seq (.reg [⟨(some 15), .p (.mv (.t 0)), none⟩, ⟨(some 16), .p (.mv (.t 1)), none⟩, ⟨(some 17), .p (.slSl 1 (.t 15) none (some (.t 16)) none), none⟩, ⟨(some 18), .call (.st 19) [(.t 17)], none⟩, ⟨(some 6), .n (.alloc [(u32 0), (u32 0), (i64 0)]), none⟩, ⟨none, .l (.stN 3 (.t 6) (.t 18)), none⟩]) <|
  .seq (.keep [0, 1, 6]) <|
  .seq (.reg [⟨(some 19), .r (.ldN 3 (.t 6)), none⟩, ⟨(some 20), .call (.st 21) [(.t 19)], none⟩, ⟨(some 21), .n (.bsl 1 1 [(u32 0)] [(0, 1, (.t 20))]), none⟩, ⟨(some 7), .p (.mv (.t 21)), none⟩]) <|
  .seq (.seq (.reg [⟨(some 22), .p (.mv (.t 1)), none⟩, ⟨(some 8), .p (.mv (.t 22)), none⟩]) <|
  .blk 0 (
    .loop (.seq (.keep [0, 1, 6, 7, 8]) c17_0))) <|
  .seq (.keep [7]) <|
  .seq (.reg [⟨(some 49), .p (.mv (.t 7)), none⟩, ⟨(some 4), .p (.mv (.t 49)), none⟩, ⟨(some 5), .p (.mv (.c (i64 0))), none⟩]) <|
  .ret
def r17 : List ARes := [.t 4, .t 5]
/- archivolt/archivoltref02.Windows -/
def c18_0 : ACode :=
  .seq (.seq (.reg [⟨(some 10), .p (.mv (.t 1)), none⟩, ⟨(some 11), .p (.mv (.t 0)), none⟩, ⟨(some 12), .p (.lenS (.t 11)), none⟩, ⟨(some 13), .p (.bin .leq (.t 10) (.t 12)), none⟩, ⟨(some 14), .p (.mv (.t 13)), none⟩, ⟨(some 15), .p (.mv (.t 7)), some (14, true)⟩, ⟨(some 16), .p (.mv (.t 0)), some (14, true)⟩, ⟨(some 17), .p (.lenS (.t 16)), some (14, true)⟩, ⟨(some 18), .p (.mv (.t 1)), some (14, true)⟩, ⟨(some 19), .p (.bin .sub (.t 17) (.t 18)), some (14, true)⟩, ⟨(some 20), .p (.bin .leq (.t 15) (.t 19)), some (14, true)⟩, ⟨(some 21), .p (.pick (.t 14) (.t 20) (.c (.bool false))), none⟩]) <|
  .seq (.keep [0, 1, 6, 7, 21]) <|
  .cond (.t 21) (
    .skip) (
    .exit 0)) <|
  .seq (.keep [0, 1, 6, 7]) <|
  .seq (.blk 1 (
    .reg [⟨(some 24), .p (.mv (.t 6)), none⟩, ⟨(some 25), .p (.mv (.t 0)), none⟩, ⟨(some 26), .p (.mv (.t 7)), none⟩, ⟨(some 27), .p (.mv (.t 7)), none⟩, ⟨(some 28), .p (.mv (.t 1)), none⟩, ⟨(some 29), .p (.bin .add (.t 27) (.t 28)), none⟩, ⟨(some 30), .p (.slSl 1 (.t 25) (some (.t 26)) (some (.t 29)) none), none⟩, ⟨(some 31), .call (.st 20) [(.t 30)], none⟩, ⟨(some 32), .call (.st 22) [(.t 31)], none⟩, ⟨(some 33), .n (.bsl 1 1 [(u32 0)] [(0, 1, (.t 32))]), none⟩, ⟨(some 34), .l (.app 1 4 (.t 24) (.t 33)), none⟩, ⟨(some 6), .p (.mv (.t 34)), none⟩])) <|
  .seq (.keep [0, 1, 6, 7]) <|
  .reg [⟨(some 22), .p (.mv (.t 7)), none⟩, ⟨(some 23), .p (.bin .add (.t 22) (.c (i64 1))), none⟩, ⟨(some 7), .p (.mv (.t 23)), none⟩]
def c18 : ACode :=
  .seq (.reg [⟨(some 4), .p (.mv (.c .nils)), none⟩, ⟨(some 5), .p (.mv (.c (i64 0))), none⟩]) <|
  .seq (.seq (.reg [⟨(some 8), .p (.mv (.t 1)), none⟩, ⟨(some 9), .p (.bin .lss (.t 8) (.c (i64 1))), none⟩]) <|
  .cond (.t 9) (
    .seq (.reg [⟨(some 4), .p (.mv (.c .nils)), none⟩, ⟨(some 5), .p (.mv (.c (i64 1))), none⟩]) <|
    .ret) (
    .skip)) <|
  .seq (.keep [0, 1]) <|
  .seq (.reg [⟨(some 6), .p (.mv (.c .nils)), none⟩]) <|
  .seq (.seq (.reg [⟨(some 7), .p (.mv (.c (i64 0))), none⟩]) <|
  .blk 0 (
    .loop (.seq (.keep [0, 1, 6, 7]) c18_0))) <|
  .seq (.keep [6]) <|
  .seq (.reg [⟨(some 35), .p (.mv (.t 6)), none⟩, ⟨(some 4), .p (.mv (.t 35)), none⟩, ⟨(some 5), .p (.mv (.c (i64 0))), none⟩]) <|
  .ret
def r18 : List ARes := [.t 4, .t 5]
/- archivolt/sums.Sum -/
def c19_0 : ACode :=
  .seq (.reg [⟨(some 12), .p (.bin .lss (.t 11) (.t 10)), none⟩]) <|
  .seq (.cond (.t 12) (
    .skip) (
    .exit 0)) <|
  .seq (.keep [2, 3, 9, 10, 11]) <|
  .seq (.blk 1 (
    .seq (.reg [⟨(some 13), .p (.idxS 1 (.t 9) (.t 11)), none⟩, ⟨(some 14), .r (.ld (.t 13)), none⟩, ⟨(some 5), .p (.mv (.t 14)), none⟩]) <|
    .seq (.reg [⟨(some 15), .p (.fieldA 0 (.t 3)), none⟩, ⟨(some 16), .r (.ld (.t 15)), none⟩, ⟨(some 17), .p (.mv (.t 5)), none⟩, ⟨(some 18), .p (.conv .u32 (.t 17)), none⟩, ⟨(some 19), .p (.bin .add (.t 16) (.t 18)), none⟩, ⟨(some 20), .p (.bin .rem (.t 19) (.c (u32 65521))), none⟩, ⟨(some 21), .p (.fieldA 0 (.t 3)), none⟩, ⟨none, .l (.st (.t 21) (.t 20)), none⟩]) <|
    .seq (.keep [2, 3, 9, 10, 11]) <|
    .reg [⟨(some 22), .p (.fieldA 1 (.t 3)), none⟩, ⟨(some 23), .r (.ld (.t 22)), none⟩, ⟨(some 24), .p (.fieldA 0 (.t 3)), none⟩, ⟨(some 25), .r (.ld (.t 24)), none⟩, ⟨(some 26), .p (.bin .add (.t 23) (.t 25)), none⟩, ⟨(some 27), .p (.bin .rem (.t 26) (.c (u32 65521))), none⟩, ⟨(some 28), .p (.fieldA 1 (.t 3)), none⟩, ⟨none, .l (.st (.t 28) (.t 27)), none⟩])) <|
  .seq (.keep [2, 3, 9, 10, 11]) <|
  .reg [⟨(some 29), .p (.bin .add (.t 11) (.c (i64 1))), none⟩, ⟨(some 11), .p (.mv (.t 29)), none⟩]
def c19 : ACode :=
  .seq (.reg [⟨(some 2), .n (.alloc [(u32 0), (u32 0), (i64 0)]), none⟩]) <|
  .seq (.reg [⟨(some 6), .p (.mv (.t 0)), none⟩, ⟨(some 7), .p (.lenS (.t 6)), none⟩, ⟨(some 8), .p (.build [(u32 0), (u32 0), (i64 0)] [(2, 1, (.t 7))]), none⟩, ⟨(some 3), .n (.alloc [(u32 0), (u32 0), (i64 0)]), none⟩, ⟨none, .l (.stN 3 (.t 3) (.t 8)), none⟩]) <|
  .seq (.seq (.reg [⟨(some 9), .p (.mv (.t 0)), none⟩, ⟨(some 10), .p (.lenS (.t 9)), none⟩, ⟨(some 11), .p (.mv (.c (i64 0))), none⟩]) <|
  .blk 0 (
    .loop (.seq (.keep [2, 3, 9, 10, 11]) c19_0))) <|
  .seq (.keep [2, 3]) <|
  .seq (.reg [⟨(some 30), .r (.ldN 3 (.t 3)), none⟩, ⟨none, .l (.stN 3 (.t 2) (.t 30)), none⟩]) <|
  .ret
def r19 : List ARes := [.cell 2 (some 3)]
/- archivolt/archivoltref02.Sum -/
def c20_0 : ACode :=
  .seq (.seq (.reg [⟨(some 8), .p (.mv (.t 4)), none⟩, ⟨(some 9), .p (.mv (.t 0)), none⟩, ⟨(some 10), .p (.lenS (.t 9)), none⟩, ⟨(some 11), .p (.bin .lss (.t 8) (.t 10)), none⟩]) <|
  .cond (.t 11) (
    .skip) (
    .exit 0)) <|
  .seq (.keep [0, 2, 3, 4]) <|
  .seq (.blk 1 (
    .seq (.drw [(⟨(some 14), .p (.fieldA 0 (.t 3)), none⟩, [], false), (⟨(some 15), .r (.ld (.t 14)), none⟩, [], false), (⟨(some 16), .p (.mv (.t 0)), none⟩, [], false), (⟨(some 17), .p (.mv (.t 4)), none⟩, [], false), (⟨(some 18), .p (.idxS 1 (.t 16) (.t 17)), none⟩, [], false), (⟨(some 19), .r (.ld (.t 18)), none⟩, [], false), (⟨(some 20), .p (.conv .u32 (.t 19)), none⟩, [], false), (⟨(some 21), .p (.bin .add (.t 15) (.t 20)), none⟩, [], true), (⟨(some 22), .p (.bin .rem (.t 21) (.c (u32 65521))), none⟩, [], true), (⟨(some 23), .p (.fieldA 0 (.t 3)), none⟩, [], true), (⟨none, .l (.st (.t 23) (.t 22)), none⟩, [], true)]) <|
    .seq (.keep [0, 2, 3, 4]) <|
    .reg [⟨(some 24), .p (.fieldA 1 (.t 3)), none⟩, ⟨(some 25), .r (.ld (.t 24)), none⟩, ⟨(some 26), .p (.fieldA 0 (.t 3)), none⟩, ⟨(some 27), .r (.ld (.t 26)), none⟩, ⟨(some 28), .p (.bin .add (.t 25) (.t 27)), none⟩, ⟨(some 29), .p (.bin .rem (.t 28) (.c (u32 65521))), none⟩, ⟨(some 30), .p (.fieldA 1 (.t 3)), none⟩, ⟨none, .l (.st (.t 30) (.t 29)), none⟩])) <|
  .seq (.keep [0, 2, 3, 4]) <|
  .reg [⟨(some 12), .p (.mv (.t 4)), none⟩, ⟨(some 13), .p (.bin .add (.t 12) (.c (i64 1))), none⟩, ⟨(some 4), .p (.mv (.t 13)), none⟩]
def c20 : ACode :=
  .seq (.reg [⟨(some 2), .n (.alloc [(u32 0), (u32 0), (i64 0)]), none⟩]) <|
  .seq (.reg [⟨(some 5), .p (.mv (.t 0)), none⟩, ⟨(some 6), .p (.lenS (.t 5)), none⟩, ⟨(some 7), .p (.build [(u32 0), (u32 0), (i64 0)] [(2, 1, (.t 6))]), none⟩, ⟨(some 3), .n (.alloc [(u32 0), (u32 0), (i64 0)]), none⟩, ⟨none, .l (.stN 3 (.t 3) (.t 7)), none⟩]) <|
  .seq (.seq (.reg [⟨(some 4), .p (.mv (.c (i64 0))), none⟩]) <|
  .blk 0 (
    .loop (.seq (.keep [0, 2, 3, 4]) c20_0))) <|
  .seq (.keep [2, 3]) <|
  .seq (.reg [⟨(some 31), .r (.ldN 3 (.t 3)), none⟩, ⟨none, .l (.stN 3 (.t 2) (.t 31)), none⟩]) <|
  .ret
def r20 : List ARes := [.cell 2 (some 3)]
/- archivolt/sums.Value -/
def c21 : ACode :=
  .seq (.reg [⟨(some 1), .n (.box (.t 0)), none⟩, ⟨(some 2), .p (.mv (.c (u32 0))), none⟩]) <|
  .seq (.reg [⟨(some 3), .p (.fieldA 1 (.t 1)), none⟩, ⟨(some 4), .r (.ld (.t 3)), none⟩, ⟨(some 5), .p (.bin .shl (.t 4) (.c (u64 16))), none⟩, ⟨(some 6), .p (.fieldA 0 (.t 1)), none⟩, ⟨(some 7), .r (.ld (.t 6)), none⟩, ⟨(some 8), .p (.bin .add (.t 5) (.t 7)), none⟩, ⟨(some 2), .p (.mv (.t 8)), none⟩]) <|
  .ret
def r21 : List ARes := [.t 2]
/- archivolt/archivoltref02.Value -/
def c22 : ACode :=
  .seq (.reg [⟨(some 1), .n (.box (.t 0)), none⟩, ⟨(some 2), .p (.mv (.c (u32 0))), none⟩]) <|
  .seq (.reg [⟨(some 3), .p (.fieldA 1 (.t 1)), none⟩, ⟨(some 4), .r (.ld (.t 3)), none⟩, ⟨(some 5), .p (.bin .mul (.t 4) (.c (u32 65536))), none⟩, ⟨(some 6), .p (.fieldA 0 (.t 1)), none⟩, ⟨(some 7), .r (.ld (.t 6)), none⟩, ⟨(some 8), .p (.bin .add (.t 5) (.t 7)), none⟩, ⟨(some 2), .p (.mv (.t 8)), none⟩]) <|
  .ret
def r22 : List ARes := [.t 2]
/- archivolt/archivoltref02.SameWords -/
def c23_0 : ACode :=
  .seq (.seq (.reg [⟨(some 11), .p (.mv (.t 5)), none⟩, ⟨(some 12), .p (.mv (.t 0)), none⟩, ⟨(some 13), .p (.lenS (.t 12)), none⟩, ⟨(some 14), .p (.bin .lss (.t 11) (.t 13)), none⟩]) <|
  .cond (.t 14) (
    .skip) (
    .exit 0)) <|
  .seq (.keep [0, 1, 5]) <|
  .seq (.blk 1 (
    .seq (.drw [(⟨(some 17), .p (.mv (.t 0)), none⟩, [], false), (⟨(some 18), .p (.mv (.t 5)), none⟩, [], false), (⟨(some 19), .p (.idxS 1 (.t 17) (.t 18)), none⟩, [], false), (⟨(some 20), .r (.ld (.t 19)), none⟩, [], false), (⟨(some 21), .p (.mv (.t 1)), none⟩, [], false), (⟨(some 22), .p (.mv (.t 5)), none⟩, [], false), (⟨(some 23), .p (.idxS 1 (.t 21) (.t 22)), none⟩, [], false), (⟨(some 24), .r (.ld (.t 23)), none⟩, [], false), (⟨(some 25), .p (.bin .neq (.t 20) (.t 24)), none⟩, [], true)]) <|
    .seq (.keep [0, 1, 5, 25]) <|
    .cond (.t 25) (
      .seq (.reg [⟨(some 4), .p (.mv (.c (.bool false))), none⟩]) <|
      .ret) (
      .skip))) <|
  .seq (.keep [0, 1, 5]) <|
  .reg [⟨(some 15), .p (.mv (.t 5)), none⟩, ⟨(some 16), .p (.bin .add (.t 15) (.c (i64 1))), none⟩, ⟨(some 5), .p (.mv (.t 16)), none⟩]
def c23 : ACode :=
  .seq (.reg [⟨(some 4), .p (.mv (.c (.bool false))), none⟩]) <|
  .seq (.seq (.reg [⟨(some 6), .p (.mv (.t 0)), none⟩, ⟨(some 7), .p (.lenS (.t 6)), none⟩, ⟨(some 8), .p (.mv (.t 1)), none⟩, ⟨(some 9), .p (.lenS (.t 8)), none⟩, ⟨(some 10), .p (.bin .neq (.t 7) (.t 9)), none⟩]) <|
  .cond (.t 10) (
    .seq (.reg [⟨(some 4), .p (.mv (.c (.bool false))), none⟩]) <|
    .ret) (
    .skip)) <|
  .seq (.keep [0, 1]) <|
  .seq (.seq (.reg [⟨(some 5), .p (.mv (.c (i64 0))), none⟩]) <|
  .blk 0 (
    .loop (.seq (.keep [0, 1, 5]) c23_0))) <|
  .seq (.keep []) <|
  .seq (.reg [⟨(some 4), .p (.mv (.c (.bool true))), none⟩]) <|
  .ret
def r23 : List ARes := [.t 4]
/- archivolt/archivoltlaw02.small -/
def c24_0 : ACode :=
  .seq (.seq (.reg [⟨(some 5), .p (.mv (.t 4)), none⟩, ⟨(some 6), .p (.mv (.t 0)), none⟩, ⟨(some 7), .p (.lenS (.t 6)), none⟩, ⟨(some 8), .p (.bin .lss (.t 5) (.t 7)), none⟩, ⟨(some 9), .p (.mv (.t 8)), none⟩, ⟨(some 10), .p (.mv (.t 3)), some (9, true)⟩, ⟨(some 11), .p (.bin .leq (.t 10) (.c (i64 4000))), some (9, true)⟩, ⟨(some 12), .p (.pick (.t 9) (.t 11) (.c (.bool false))), none⟩]) <|
  .seq (.keep [0, 3, 4, 12]) <|
  .cond (.t 12) (
    .skip) (
    .exit 0)) <|
  .seq (.keep [0, 3, 4]) <|
  .seq (.blk 1 (
    .reg [⟨(some 15), .p (.mv (.t 3)), none⟩, ⟨(some 16), .p (.mv (.t 0)), none⟩, ⟨(some 17), .p (.mv (.t 4)), none⟩, ⟨(some 18), .p (.idxS 1 (.t 16) (.t 17)), none⟩, ⟨(some 19), .r (.ld (.t 18)), none⟩, ⟨(some 20), .p (.lenS (.t 19)), none⟩, ⟨(some 21), .p (.bin .add (.c (i64 20)) (.t 20)), none⟩, ⟨(some 22), .p (.bin .add (.t 15) (.t 21)), none⟩, ⟨(some 3), .p (.mv (.t 22)), none⟩])) <|
  .seq (.keep [0, 3, 4]) <|
  .reg [⟨(some 13), .p (.mv (.t 4)), none⟩, ⟨(some 14), .p (.bin .add (.t 13) (.c (i64 1))), none⟩, ⟨(some 4), .p (.mv (.t 14)), none⟩]
def c24 : ACode :=
  .seq (.reg [⟨(some 2), .p (.mv (.c (.bool false))), none⟩]) <|
  .seq (.reg [⟨(some 3), .p (.mv (.c (i64 0))), none⟩]) <|
  .seq (.seq (.reg [⟨(some 4), .p (.mv (.c (i64 0))), none⟩]) <|
  .blk 0 (
    .loop (.seq (.keep [0, 3, 4]) c24_0))) <|
  .seq (.keep [0, 3]) <|
  .seq (.reg [⟨(some 23), .p (.mv (.t 3)), none⟩, ⟨(some 24), .p (.bin .leq (.t 23) (.c (i64 4000))), none⟩, ⟨(some 25), .p (.mv (.t 24)), none⟩, ⟨(some 26), .p (.mv (.t 0)), some (25, false)⟩, ⟨(some 27), .p (.lenS (.t 26)), some (25, false)⟩, ⟨(some 28), .p (.bin .gtr (.t 27) (.c (i64 4096))), some (25, false)⟩, ⟨(some 29), .p (.pick (.t 25) (.c (.bool true)) (.t 28)), none⟩, ⟨(some 2), .p (.mv (.t 29)), none⟩]) <|
  .ret
def r24 : List ARes := [.t 2]
/- archivolt/sums.Root -/
def c25 : ACode :=
  .seq (.reg [⟨(some 2), .n (.alloc (List.replicate 16 (u8 0))), none⟩, ⟨(some 3), .p (.mv (.c (i64 0))), none⟩]) <|
  .seq (.seq (.reg [⟨(some 4), .p (.mv (.t 0)), none⟩, ⟨(some 5), .p (.lenS (.t 4)), none⟩, ⟨(some 6), .p (.bin .gtr (.t 5) (.c (i64 4096))), none⟩]) <|
  .cond (.t 6) (
    .seq (.reg [⟨(some 7), .p (.build (List.replicate 16 (u8 0)) []), none⟩, ⟨none, .l (.stN 16 (.t 2) (.t 7)), none⟩, ⟨(some 3), .p (.mv (.c (i64 2))), none⟩]) <|
    .ret) (
    .skip)) <|
  .seq (.keep [0, 2]) <|
  .seq (.reg [⟨(some 8), .p (.mv (.t 0)), none⟩, ⟨(some 9), .call (.st 48) [(.t 8)], none⟩, ⟨none, .l (.stN 16 (.t 2) (.t 9)), none⟩, ⟨(some 3), .p (.mv (.c (i64 0))), none⟩]) <|
  .ret
def r25 : List ARes := [.cell 2 (some 16), .t 3]
/- archivolt/archivoltref02.Root -/
def c26 : ACode :=
  .seq (.reg [⟨(some 2), .n (.alloc (List.replicate 16 (u8 0))), none⟩, ⟨(some 3), .p (.mv (.c (i64 0))), none⟩]) <|
  .seq (.seq (.reg [⟨(some 4), .p (.mv (.t 0)), none⟩, ⟨(some 5), .p (.lenS (.t 4)), none⟩, ⟨(some 6), .p (.bin .gtr (.t 5) (.c (i64 4096))), none⟩]) <|
  .cond (.t 6) (
    .seq (.reg [⟨(some 7), .p (.build (List.replicate 16 (u8 0)) []), none⟩, ⟨none, .l (.stN 16 (.t 2) (.t 7)), none⟩, ⟨(some 3), .p (.mv (.c (i64 2))), none⟩]) <|
    .ret) (
    .skip)) <|
  .seq (.keep [0, 2]) <|
  .seq (.reg [⟨(some 8), .p (.mv (.t 0)), none⟩, ⟨(some 9), .call (.st 49) [(.t 8)], none⟩, ⟨none, .l (.stN 16 (.t 2) (.t 9)), none⟩, ⟨(some 3), .p (.mv (.c (i64 0))), none⟩]) <|
  .ret
def r26 : List ARes := [.cell 2 (some 16), .t 3]
/- archivolt/sums.Prove -/
def c27_0 : ACode :=
  .seq (.seq (.reg [⟨(some 21), .p (.mv (.t 0)), none⟩, ⟨(some 22), .p (.lenS (.t 21)), none⟩, ⟨(some 23), .p (.bin .gtr (.t 22) (.c (i64 1))), none⟩]) <|
  .cond (.t 23) (
    .skip) (
    .exit 0)) <|
  .seq (.keep [0, 1, 6]) <|
  .blk 1 (
    .seq (.reg [⟨(some 24), .p (.mv (.t 0)), none⟩, ⟨(some 25), .p (.lenS (.t 24)), none⟩, ⟨(some 26), .call (.st 50) [(.t 25)], none⟩, ⟨(some 7), .p (.mv (.t 26)), none⟩]) <|
    .seq (.reg [⟨(some 27), .p (.mv (.t 1)), none⟩, ⟨(some 28), .p (.mv (.t 7)), none⟩, ⟨(some 29), .p (.bin .lss (.t 27) (.t 28)), none⟩]) <|
    .cond (.t 29) (
      .seq (.reg [⟨(some 30), .p (.mv (.t 6)), none⟩, ⟨(some 31), .p (.mv (.t 0)), none⟩, ⟨(some 32), .p (.mv (.t 7)), none⟩, ⟨(some 33), .p (.slSl 1 (.t 31) (some (.t 32)) none none), none⟩, ⟨(some 34), .call (.st 48) [(.t 33)], none⟩, ⟨(some 35), .n (.bsl 1 16 (List.replicate 16 (u8 0)) [(0, 16, (.t 34))]), none⟩, ⟨(some 36), .l (.app 16 16 (.t 30) (.t 35)), none⟩, ⟨(some 6), .p (.mv (.t 36)), none⟩]) <|
      .seq (.keep [0, 1, 6, 7]) <|
      .reg [⟨(some 37), .p (.mv (.t 0)), none⟩, ⟨(some 38), .p (.mv (.t 7)), none⟩, ⟨(some 39), .p (.slSl 1 (.t 37) none (some (.t 38)) none), none⟩, ⟨(some 0), .p (.mv (.t 39)), none⟩]) (
      .seq (.reg [⟨(some 40), .p (.mv (.t 6)), none⟩, ⟨(some 41), .p (.mv (.t 0)), none⟩, ⟨(some 42), .p (.mv (.t 7)), none⟩, ⟨(some 43), .p (.slSl 1 (.t 41) none (some (.t 42)) none), none⟩, ⟨(some 44), .call (.st 48) [(.t 43)], none⟩, ⟨(some 45), .n (.bsl 1 16 (List.replicate 16 (u8 0)) [(0, 16, (.t 44))]), none⟩, ⟨(some 46), .l (.app 16 16 (.t 40) (.t 45)), none⟩, ⟨(some 6), .p (.mv (.t 46)), none⟩]) <|
      .seq (.keep [0, 1, 6, 7]) <|
      .seq (.reg [⟨(some 47), .p (.mv (.t 0)), none⟩, ⟨(some 48), .p (.mv (.t 7)), none⟩, ⟨(some 49), .p (.slSl 1 (.t 47) (some (.t 48)) none none), none⟩, ⟨(some 0), .p (.mv (.t 49)), none⟩]) <|
      .reg [⟨(some 50), .p (.mv (.t 1)), none⟩, ⟨(some 51), .p (.mv (.t 7)), none⟩, ⟨(some 52), .p (.bin .sub (.t 50) (.t 51)), none⟩, ⟨(some 1), .p (.mv (.t 52)), none⟩]))
def c27_1 : ACode :=
  .seq (.seq (.reg [⟨(some 56), .p (.mv (.t 8)), none⟩, ⟨(some 57), .p (.mv (.t 9)), none⟩, ⟨(some 58), .p (.bin .lss (.t 56) (.t 57)), none⟩]) <|
  .cond (.t 58) (
    .skip) (
    .exit 2)) <|
  .seq (.keep [6, 8, 9]) <|
  .seq (.blk 3 (
    .drw [(⟨(some 63), .p (.mv (.t 6)), none⟩, [], false), (⟨(some 64), .p (.mv (.t 8)), none⟩, [], false), (⟨(some 67), .p (.mv (.t 6)), none⟩, [], false), (⟨(some 68), .p (.mv (.t 9)), none⟩, [], false), (⟨(some 69), .p (.idxS 16 (.t 67) (.t 68)), none⟩, [], false), (⟨(some 70), .r (.ldN 16 (.t 69)), none⟩, [], false), (⟨(some 71), .p (.mv (.t 6)), none⟩, [], false), (⟨(some 72), .p (.mv (.t 8)), none⟩, [], false), (⟨(some 73), .p (.idxS 16 (.t 71) (.t 72)), none⟩, [], false), (⟨(some 74), .r (.ldN 16 (.t 73)), none⟩, [], false), (⟨(some 75), .p (.idxS 16 (.t 63) (.t 64)), none⟩, [], false), (⟨none, .l (.stN 16 (.t 75) (.t 70)), none⟩, [], false), (⟨(some 65), .p (.mv (.t 6)), none⟩, [0], false), (⟨(some 66), .p (.mv (.t 9)), none⟩, [0], false), (⟨(some 76), .p (.idxS 16 (.t 65) (.t 66)), none⟩, [], true), (⟨none, .l (.stN 16 (.t 76) (.t 74)), none⟩, [], true)])) <|
  .seq (.keep [6, 8, 9]) <|
  .reg [⟨(some 59), .p (.mv (.t 8)), none⟩, ⟨(some 60), .p (.bin .add (.t 59) (.c (i64 1))), none⟩, ⟨(some 61), .p (.mv (.t 9)), none⟩, ⟨(some 62), .p (.bin .sub (.t 61) (.c (i64 1))), none⟩, ⟨(some 8), .p (.mv (.t 60)), none⟩, ⟨(some 9), .p (.mv (.t 62)), none⟩]
def c27 : ACode :=
  .seq (.reg [⟨(some 4), .p (.mv (.c .nils)), none⟩, ⟨(some 5), .p (.mv (.c (i64 0))), none⟩]) <|
  .seq (.seq (.reg [⟨(some 10), .p (.mv (.t 0)), none⟩, ⟨(some 11), .p (.lenS (.t 10)), none⟩, ⟨(some 12), .p (.bin .gtr (.t 11) (.c (i64 4096))), none⟩]) <|
  .cond (.t 12) (
    .seq (.reg [⟨(some 4), .p (.mv (.c .nils)), none⟩, ⟨(some 5), .p (.mv (.c (i64 2))), none⟩]) <|
    .ret) (
    .skip)) <|
  .seq (.keep [0, 1]) <|
  .seq (.seq (.reg [⟨(some 13), .p (.mv (.t 1)), none⟩, ⟨(some 14), .p (.bin .lss (.t 13) (.c (i64 0))), none⟩, ⟨(some 15), .p (.mv (.t 14)), none⟩, ⟨(some 16), .p (.mv (.t 1)), some (15, false)⟩, ⟨(some 17), .p (.mv (.t 0)), some (15, false)⟩, ⟨(some 18), .p (.lenS (.t 17)), some (15, false)⟩, ⟨(some 19), .p (.bin .geq (.t 16) (.t 18)), some (15, false)⟩, ⟨(some 20), .p (.pick (.t 15) (.c (.bool true)) (.t 19)), none⟩]) <|
  .seq (.keep [0, 1, 20]) <|
  .cond (.t 20) (
    .seq (.reg [⟨(some 4), .p (.mv (.c .nils)), none⟩, ⟨(some 5), .p (.mv (.c (i64 3))), none⟩]) <|
    .ret) (
    .skip)) <|
  .seq (.keep [0, 1]) <|
  .seq (.reg [⟨(some 6), .p (.mv (.c .nils)), none⟩]) <|
  .seq (.blk 0 (
    .loop (.seq (.keep [0, 1, 6]) c27_0))) <|
  .seq (.keep [6]) <|
  .seq (.seq (.reg [⟨(some 53), .p (.mv (.t 6)), none⟩, ⟨(some 54), .p (.lenS (.t 53)), none⟩, ⟨(some 55), .p (.bin .sub (.t 54) (.c (i64 1))), none⟩, ⟨(some 8), .p (.mv (.c (i64 0))), none⟩, ⟨(some 9), .p (.mv (.t 55)), none⟩]) <|
  .blk 2 (
    .loop (.seq (.keep [6, 8, 9]) c27_1))) <|
  .seq (.keep [6]) <|
  .seq (.reg [⟨(some 77), .p (.mv (.t 6)), none⟩, ⟨(some 4), .p (.mv (.t 77)), none⟩, ⟨(some 5), .p (.mv (.c (i64 0))), none⟩]) <|
  .ret
def r27 : List ARes := [.t 4, .t 5]
/- archivolt/archivoltref02.Prove -/
def c28 : ACode :=
  .seq (.reg [⟨(some 4), .p (.mv (.c .nils)), none⟩, ⟨(some 5), .p (.mv (.c (i64 0))), none⟩]) <|
  .seq (.seq (.reg [⟨(some 6), .p (.mv (.t 0)), none⟩, ⟨(some 7), .p (.lenS (.t 6)), none⟩, ⟨(some 8), .p (.bin .gtr (.t 7) (.c (i64 4096))), none⟩]) <|
  .cond (.t 8) (
    .seq (.reg [⟨(some 4), .p (.mv (.c .nils)), none⟩, ⟨(some 5), .p (.mv (.c (i64 2))), none⟩]) <|
    .ret) (
    .skip)) <|
  .seq (.keep [0, 1]) <|
  .seq (.seq (.reg [⟨(some 9), .p (.mv (.t 1)), none⟩, ⟨(some 10), .p (.bin .lss (.t 9) (.c (i64 0))), none⟩, ⟨(some 11), .p (.mv (.t 10)), none⟩, ⟨(some 12), .p (.mv (.t 1)), some (11, false)⟩, ⟨(some 13), .p (.mv (.t 0)), some (11, false)⟩, ⟨(some 14), .p (.lenS (.t 13)), some (11, false)⟩, ⟨(some 15), .p (.bin .geq (.t 12) (.t 14)), some (11, false)⟩, ⟨(some 16), .p (.pick (.t 11) (.c (.bool true)) (.t 15)), none⟩]) <|
  .seq (.keep [0, 1, 16]) <|
  .cond (.t 16) (
    .seq (.reg [⟨(some 4), .p (.mv (.c .nils)), none⟩, ⟨(some 5), .p (.mv (.c (i64 3))), none⟩]) <|
    .ret) (
    .skip)) <|
  .seq (.keep [0, 1]) <|
  .seq (.reg [⟨(some 17), .p (.mv (.t 0)), none⟩, ⟨(some 18), .p (.mv (.t 1)), none⟩, ⟨(some 19), .call (.st 51) [(.t 17), (.t 18)], none⟩, ⟨(some 4), .p (.mv (.t 19)), none⟩, ⟨(some 5), .p (.mv (.c (i64 0))), none⟩]) <|
  .ret
def r28 : List ARes := [.t 4, .t 5]
/- archivolt/archivoltref02.SameDigests -/
def c29_0 : ACode :=
  .seq (.seq (.reg [⟨(some 11), .p (.mv (.t 5)), none⟩, ⟨(some 12), .p (.mv (.t 0)), none⟩, ⟨(some 13), .p (.lenS (.t 12)), none⟩, ⟨(some 14), .p (.bin .lss (.t 11) (.t 13)), none⟩]) <|
  .cond (.t 14) (
    .skip) (
    .exit 0)) <|
  .seq (.keep [0, 1, 5]) <|
  .seq (.blk 1 (
    .seq (.drw [(⟨(some 17), .p (.mv (.t 0)), none⟩, [], false), (⟨(some 18), .p (.mv (.t 5)), none⟩, [], false), (⟨(some 19), .p (.idxS 16 (.t 17) (.t 18)), none⟩, [], false), (⟨(some 20), .r (.ldN 16 (.t 19)), none⟩, [], false), (⟨(some 21), .p (.mv (.t 1)), none⟩, [], false), (⟨(some 22), .p (.mv (.t 5)), none⟩, [], false), (⟨(some 23), .p (.idxS 16 (.t 21) (.t 22)), none⟩, [], false), (⟨(some 24), .r (.ldN 16 (.t 23)), none⟩, [], false), (⟨(some 25), .p (.eqv true (.flat [.int, .int, .int, .int, .int, .int, .int, .int, .int, .int, .int, .int, .int, .int, .int, .int]) (.t 20) (.t 24)), none⟩, [], true)]) <|
    .seq (.keep [0, 1, 5, 25]) <|
    .cond (.t 25) (
      .seq (.reg [⟨(some 4), .p (.mv (.c (.bool false))), none⟩]) <|
      .ret) (
      .skip))) <|
  .seq (.keep [0, 1, 5]) <|
  .reg [⟨(some 15), .p (.mv (.t 5)), none⟩, ⟨(some 16), .p (.bin .add (.t 15) (.c (i64 1))), none⟩, ⟨(some 5), .p (.mv (.t 16)), none⟩]
def c29 : ACode :=
  .seq (.reg [⟨(some 4), .p (.mv (.c (.bool false))), none⟩]) <|
  .seq (.seq (.reg [⟨(some 6), .p (.mv (.t 0)), none⟩, ⟨(some 7), .p (.lenS (.t 6)), none⟩, ⟨(some 8), .p (.mv (.t 1)), none⟩, ⟨(some 9), .p (.lenS (.t 8)), none⟩, ⟨(some 10), .p (.bin .neq (.t 7) (.t 9)), none⟩]) <|
  .cond (.t 10) (
    .seq (.reg [⟨(some 4), .p (.mv (.c (.bool false))), none⟩]) <|
    .ret) (
    .skip)) <|
  .seq (.keep [0, 1]) <|
  .seq (.seq (.reg [⟨(some 5), .p (.mv (.c (i64 0))), none⟩]) <|
  .blk 0 (
    .loop (.seq (.keep [0, 1, 5]) c29_0))) <|
  .seq (.keep []) <|
  .seq (.reg [⟨(some 4), .p (.mv (.c (.bool true))), none⟩]) <|
  .ret
def r29 : List ARes := [.t 4]
/- archivolt/sums.Above -/
def c30 : ACode :=
  .seq (.reg [⟨(some 8), .n (.alloc (List.replicate 16 (u8 0))), none⟩, ⟨(some 9), .p (.mv (.c (i64 0))), none⟩]) <|
  .seq (.reg [⟨(some 13), .p (.mv (.t 0)), none⟩, ⟨(some 14), .p (.mv (.t 1)), none⟩, ⟨(some 15), .p (.mv (.t 2)), none⟩, ⟨(some 16), .p (.mv (.t 3)), none⟩, ⟨(some 17), .call (.st 52) [(.t 13), (.t 14), (.t 15), (.t 16)], none⟩, ⟨(some 12), .p (.mv (.t 17)), none⟩, ⟨(some 18), .p (.ext (.t 12) 0), none⟩, ⟨(some 19), .p (.ext (.t 12) 1), none⟩, ⟨(some 10), .p (.mv (.t 18)), none⟩, ⟨(some 11), .p (.mv (.t 19)), none⟩]) <|
  .seq (.keep [8, 10, 11]) <|
  .seq (.seq (.reg [⟨(some 20), .p (.mv (.t 11)), none⟩, ⟨(some 21), .p (.bin .neq (.t 20) (.c (i64 0))), none⟩]) <|
  .cond (.t 21) (
    .seq (.reg [⟨(some 22), .p (.build (List.replicate 16 (u8 0)) []), none⟩, ⟨(some 23), .p (.mv (.t 11)), none⟩, ⟨none, .l (.stN 16 (.t 8) (.t 22)), none⟩, ⟨(some 9), .p (.mv (.t 23)), none⟩]) <|
    .ret) (
    .skip)) <|
  .seq (.keep [8, 10]) <|
  .seq (.reg [⟨(some 24), .p (.mv (.t 10)), none⟩, ⟨(some 25), .p (.mv (.t 10)), none⟩, ⟨(some 26), .p (.lenS (.t 25)), none⟩, ⟨(some 27), .p (.bin .sub (.t 26) (.c (i64 1))), none⟩, ⟨(some 28), .p (.idxS 1 (.t 24) (.t 27)), none⟩, ⟨(some 29), .r (.ld (.t 28)), none⟩, ⟨(some 30), .call (.st 39) [(.t 29)], none⟩, ⟨none, .l (.stN 16 (.t 8) (.t 30)), none⟩, ⟨(some 9), .p (.mv (.c (i64 0))), none⟩]) <|
  .ret
def r30 : List ARes := [.cell 8 (some 16), .t 9]
/- archivolt/archivoltref02.Above -/
def c31 : ACode :=
  .seq (.reg [⟨(some 8), .n (.alloc (List.replicate 16 (u8 0))), none⟩, ⟨(some 9), .p (.mv (.c (i64 0))), none⟩]) <|
  .seq (.reg [⟨(some 13), .p (.mv (.t 0)), none⟩, ⟨(some 14), .p (.mv (.t 1)), none⟩, ⟨(some 15), .p (.mv (.t 2)), none⟩, ⟨(some 16), .p (.mv (.t 3)), none⟩, ⟨(some 17), .call (.st 53) [(.t 13), (.t 14), (.t 15), (.t 16)], none⟩, ⟨(some 12), .p (.mv (.t 17)), none⟩, ⟨(some 18), .p (.ext (.t 12) 0), none⟩, ⟨(some 19), .p (.ext (.t 12) 1), none⟩, ⟨(some 10), .p (.mv (.t 18)), none⟩, ⟨(some 11), .p (.mv (.t 19)), none⟩]) <|
  .seq (.keep [8, 10, 11]) <|
  .seq (.seq (.reg [⟨(some 20), .p (.mv (.t 11)), none⟩, ⟨(some 21), .p (.bin .neq (.t 20) (.c (i64 0))), none⟩]) <|
  .cond (.t 21) (
    .seq (.reg [⟨(some 22), .p (.build (List.replicate 16 (u8 0)) []), none⟩, ⟨(some 23), .p (.mv (.t 11)), none⟩, ⟨none, .l (.stN 16 (.t 8) (.t 22)), none⟩, ⟨(some 9), .p (.mv (.t 23)), none⟩]) <|
    .ret) (
    .skip)) <|
  .seq (.keep [8, 10]) <|
  .seq (.reg [⟨(some 24), .p (.mv (.t 10)), none⟩, ⟨(some 25), .p (.mv (.t 10)), none⟩, ⟨(some 26), .p (.lenS (.t 25)), none⟩, ⟨(some 27), .p (.bin .sub (.t 26) (.c (i64 1))), none⟩, ⟨(some 28), .p (.idxS 1 (.t 24) (.t 27)), none⟩, ⟨(some 29), .r (.ld (.t 28)), none⟩, ⟨(some 30), .call (.st 54) [(.t 29)], none⟩, ⟨none, .l (.stN 16 (.t 8) (.t 30)), none⟩, ⟨(some 9), .p (.mv (.c (i64 0))), none⟩]) <|
  .ret
def r31 : List ARes := [.cell 8 (some 16), .t 9]
/- archivolt/sums.Check -/
def c32 : ACode :=
  .seq (.reg [⟨(some 5), .n (.box (.t 0)), none⟩, ⟨(some 10), .p (.mv (.c (i64 0))), none⟩]) <|
  .seq (.reg [⟨(some 14), .p (.mv (.t 1)), none⟩, ⟨(some 15), .p (.mv (.t 2)), none⟩, ⟨(some 16), .p (.mv (.t 3)), none⟩, ⟨(some 17), .p (.mv (.t 4)), none⟩, ⟨(some 18), .call (.st 30) [(.t 14), (.t 15), (.t 16), (.t 17)], none⟩, ⟨(some 13), .p (.mv (.t 18)), none⟩, ⟨(some 19), .p (.ext (.t 13) 0), none⟩, ⟨(some 20), .p (.ext (.t 13) 1), none⟩, ⟨(some 11), .n (.alloc (List.replicate 16 (u8 0))), none⟩, ⟨none, .l (.stN 16 (.t 11) (.t 19)), none⟩, ⟨(some 12), .p (.mv (.t 20)), none⟩]) <|
  .seq (.keep [5, 11, 12]) <|
  .seq (.seq (.reg [⟨(some 21), .p (.mv (.t 12)), none⟩, ⟨(some 22), .p (.bin .eql (.t 21) (.c (i64 0))), none⟩, ⟨(some 23), .p (.mv (.t 22)), none⟩, ⟨(some 24), .r (.ldN 16 (.t 11)), some (23, true)⟩, ⟨(some 25), .r (.ldN 16 (.t 5)), some (23, true)⟩, ⟨(some 26), .p (.eqv true (.flat [.int, .int, .int, .int, .int, .int, .int, .int, .int, .int, .int, .int, .int, .int, .int, .int]) (.t 24) (.t 25)), some (23, true)⟩, ⟨(some 27), .p (.pick (.t 23) (.t 26) (.c (.bool false))), none⟩]) <|
  .seq (.keep [12, 27]) <|
  .cond (.t 27) (
    .seq (.reg [⟨(some 10), .p (.mv (.c (i64 22))), none⟩]) <|
    .ret) (
    .skip)) <|
  .seq (.keep [12]) <|
  .seq (.reg [⟨(some 28), .p (.mv (.t 12)), none⟩, ⟨(some 10), .p (.mv (.t 28)), none⟩]) <|
  .ret
def r32 : List ARes := [.t 10]
/- archivolt/archivoltref02.Check -/
def c33 : ACode :=
  .seq (.reg [⟨(some 5), .n (.box (.t 0)), none⟩, ⟨(some 10), .p (.mv (.c (i64 0))), none⟩]) <|
  .seq (.reg [⟨(some 14), .p (.mv (.t 1)), none⟩, ⟨(some 15), .p (.mv (.t 2)), none⟩, ⟨(some 16), .p (.mv (.t 3)), none⟩, ⟨(some 17), .p (.mv (.t 4)), none⟩, ⟨(some 18), .call (.st 31) [(.t 14), (.t 15), (.t 16), (.t 17)], none⟩, ⟨(some 13), .p (.mv (.t 18)), none⟩, ⟨(some 19), .p (.ext (.t 13) 0), none⟩, ⟨(some 20), .p (.ext (.t 13) 1), none⟩, ⟨(some 11), .n (.alloc (List.replicate 16 (u8 0))), none⟩, ⟨none, .l (.stN 16 (.t 11) (.t 19)), none⟩, ⟨(some 12), .p (.mv (.t 20)), none⟩]) <|
  .seq (.keep [5, 11, 12]) <|
  .seq (.seq (.reg [⟨(some 21), .p (.mv (.t 12)), none⟩, ⟨(some 22), .p (.bin .eql (.t 21) (.c (i64 0))), none⟩, ⟨(some 23), .p (.mv (.t 22)), none⟩, ⟨(some 24), .r (.ldN 16 (.t 11)), some (23, true)⟩, ⟨(some 25), .r (.ldN 16 (.t 5)), some (23, true)⟩, ⟨(some 26), .p (.eqv true (.flat [.int, .int, .int, .int, .int, .int, .int, .int, .int, .int, .int, .int, .int, .int, .int, .int]) (.t 24) (.t 25)), some (23, true)⟩, ⟨(some 27), .p (.pick (.t 23) (.t 26) (.c (.bool false))), none⟩]) <|
  .seq (.keep [12, 27]) <|
  .cond (.t 27) (
    .seq (.reg [⟨(some 10), .p (.mv (.c (i64 22))), none⟩]) <|
    .ret) (
    .skip)) <|
  .seq (.keep [12]) <|
  .seq (.reg [⟨(some 28), .p (.mv (.t 12)), none⟩, ⟨(some 10), .p (.mv (.t 28)), none⟩]) <|
  .ret
def r33 : List ARes := [.t 10]
/- archivolt/sums.Crc -/
def c34_0 : ACode :=
  .seq (.reg [⟨(some 11), .p (.bin .lss (.t 10) (.t 9)), none⟩]) <|
  .seq (.cond (.t 11) (
    .skip) (
    .exit 0)) <|
  .seq (.keep [3, 4, 8, 9, 10]) <|
  .seq (.blk 1 (
    .seq (.reg [⟨(some 12), .p (.idxS 1 (.t 8) (.t 10)), none⟩, ⟨(some 13), .r (.ld (.t 12)), none⟩, ⟨(some 6), .p (.mv (.t 13)), none⟩]) <|
    .reg [⟨(some 14), .p (.mv (.t 3)), none⟩, ⟨(some 15), .p (.mv (.t 4)), none⟩, ⟨(some 16), .p (.mv (.t 6)), none⟩, ⟨(some 17), .call (.dyn (.t 14)) [(.t 15), (.t 16)], none⟩, ⟨(some 4), .p (.mv (.t 17)), none⟩])) <|
  .seq (.keep [3, 4, 8, 9, 10]) <|
  .reg [⟨(some 18), .p (.bin .add (.t 10) (.c (i64 1))), none⟩, ⟨(some 10), .p (.mv (.t 18)), none⟩]
def c34 : ACode :=
  .seq (.reg [⟨(some 2), .p (.mv (.c (u32 0))), none⟩]) <|
  .seq (.reg [⟨(some 7), .call (.st 55) [(.c (u32 3252574743))], none⟩, ⟨(some 3), .p (.mv (.t 7)), none⟩]) <|
  .seq (.reg [⟨(some 4), .p (.mv (.c (u32 4294967295))), none⟩]) <|
  .seq (.seq (.reg [⟨(some 8), .p (.mv (.t 0)), none⟩, ⟨(some 9), .p (.lenS (.t 8)), none⟩, ⟨(some 10), .p (.mv (.c (i64 0))), none⟩]) <|
  .blk 0 (
    .loop (.seq (.keep [3, 4, 8, 9, 10]) c34_0))) <|
  .seq (.keep [4]) <|
  .seq (.reg [⟨(some 19), .p (.mv (.t 4)), none⟩, ⟨(some 20), .p (.un .xor (.t 19)), none⟩, ⟨(some 2), .p (.mv (.t 20)), none⟩]) <|
  .ret
def r34 : List ARes := [.t 2]
/- archivolt/sums.Start -/
def c35 : ACode :=
  .seq (.reg [⟨(some 0), .n (.alloc [(u32 0), (u32 0), (u32 0), (u32 0), (u32 0), (u32 0), (u32 0), (u32 0), .nils]), none⟩]) <|
  .seq (.reg [⟨(some 1), .n (.alloc [(u32 0), (u32 0), (u32 0), (u32 0), (u32 0), (u32 0), (u32 0), (u32 0), .nils]), none⟩]) <|
  .seq (.reg [⟨(some 2), .p (.fieldA 0 (.t 1)), none⟩, ⟨(some 3), .p (.idxA 8 1 (.t 2) (.c (i64 7))), none⟩, ⟨none, .l (.st (.t 3) (.c (u32 1634886504))), none⟩]) <|
  .seq (.reg [⟨(some 4), .r (.ldN 9 (.t 1)), none⟩, ⟨none, .l (.stN 9 (.t 0) (.t 4)), none⟩]) <|
  .ret
def r35 : List ARes := [.cell 0 (some 9)]
/- archivolt/sums.Absorb -/
def c36_1 : ACode :=
  .seq (.reg [⟨(some 24), .p (.bin .lss (.t 23) (.c (i64 4))), none⟩]) <|
  .seq (.cond (.t 24) (
    .skip) (
    .exit 2)) <|
  .seq (.keep [2, 7, 23]) <|
  .seq (.blk 3 (
    .seq (.reg [⟨(some 25), .p (.mv (.t 23)), none⟩, ⟨(some 8), .p (.mv (.t 25)), none⟩]) <|
    .drw [(⟨(some 30), .p (.mv (.t 7)), none⟩, [], false), (⟨(some 31), .p (.mv (.t 8)), none⟩, [], false), (⟨(some 32), .p (.bin .mul (.c (i64 4)) (.t 31)), none⟩, [], false), (⟨(some 33), .p (.mv (.t 8)), none⟩, [], false), (⟨(some 34), .p (.bin .mul (.c (i64 4)) (.t 33)), none⟩, [], false), (⟨(some 35), .p (.bin .add (.t 34) (.c (i64 4))), none⟩, [], false), (⟨(some 36), .p (.slSl 1 (.t 30) (some (.t 32)) (some (.t 35)) none), none⟩, [], false), (⟨(some 37), .call (.st 57) [(.t 36)], none⟩, [], false), (⟨(some 26), .p (.mv (.t 8)), none⟩, [0], false), (⟨(some 27), .p (.fieldA 0 (.t 2)), none⟩, [0], false), (⟨(some 28), .p (.idxA 8 1 (.t 27) (.t 26)), none⟩, [0], false), (⟨(some 29), .r (.ld (.t 28)), none⟩, [0], false), (⟨(some 38), .p (.bin .xor (.t 29) (.t 37)), none⟩, [], false), (⟨(some 39), .p (.fieldA 0 (.t 2)), none⟩, [0], false), (⟨(some 40), .p (.idxA 8 1 (.t 39) (.t 26)), none⟩, [], true), (⟨none, .l (.st (.t 40) (.t 38)), none⟩, [], true)])) <|
  .seq (.keep [2, 7, 23]) <|
  .reg [⟨(some 41), .p (.bin .add (.t 23) (.c (i64 1))), none⟩, ⟨(some 23), .p (.mv (.t 41)), none⟩]
def c36_0a : ACode :=
  .reg [⟨(some 7), .p (.mv (.t 22)), none⟩]
def c36_0 : ACode :=
  .blk 1 (
    .seq (.seq (.reg [⟨(some 23), .p (.mv (.c (i64 0))), none⟩]) <|
    .blk 2 (
      .loop (.seq (.keep [2, 7, 23]) c36_1))) <|
    .seq (.keep [2]) <|
    .reg [⟨(some 42), .p (.fieldA 0 (.t 2)), none⟩, ⟨(some 43), .r (.ldN 8 (.t 42)), none⟩, ⟨(some 44), .call (.st 41) [(.t 43)], none⟩, ⟨(some 45), .p (.fieldA 0 (.t 2)), none⟩, ⟨none, .l (.stN 8 (.t 45) (.t 44)), none⟩])
def c36 : ACode :=
  .seq (.reg [⟨(some 2), .n (.box (.t 0)), none⟩, ⟨(some 4), .n (.alloc [(u32 0), (u32 0), (u32 0), (u32 0), (u32 0), (u32 0), (u32 0), (u32 0), .nils]), none⟩, ⟨(some 5), .p (.mv (.c (i64 0))), none⟩]) <|
  .seq (.seq (.reg [⟨(some 9), .p (.fieldA 8 (.t 2)), none⟩, ⟨(some 10), .r (.ld (.t 9)), none⟩, ⟨(some 11), .p (.lenS (.t 10)), none⟩, ⟨(some 12), .p (.bin .geq (.t 11) (.c (i64 16))), none⟩]) <|
  .cond (.t 12) (
    .seq (.reg [⟨(some 13), .p (.build [(u32 0), (u32 0), (u32 0), (u32 0), (u32 0), (u32 0), (u32 0), (u32 0), .nils] []), none⟩, ⟨none, .l (.stN 9 (.t 4) (.t 13)), none⟩, ⟨(some 5), .p (.mv (.c (i64 1))), none⟩]) <|
    .ret) (
    .skip)) <|
  .seq (.keep [1, 2, 4, 5]) <|
  .seq (.reg [⟨(some 14), .n (.bsl 0 1 [(u8 0)] []), none⟩, ⟨(some 15), .p (.fieldA 8 (.t 2)), none⟩, ⟨(some 16), .r (.ld (.t 15)), none⟩, ⟨(some 17), .l (.app 1 1 (.t 14) (.t 16)), none⟩, ⟨(some 18), .p (.mv (.t 1)), none⟩, ⟨(some 19), .l (.app 1 1 (.t 17) (.t 18)), none⟩, ⟨(some 6), .p (.mv (.t 19)), none⟩]) <|
  .seq (.keep [2, 4, 5, 6]) <|
  .seq (.seq (.reg [⟨(some 20), .p (.mv (.t 6)), none⟩, ⟨(some 21), .call (.st 56) [(.t 20)], none⟩]) <|
  .blk 0 (
    .rngf (.t 21) [22] c36_0a c36_0)) <|
  .seq (.keep [2, 4, 6]) <|
  .seq (.reg [⟨(some 46), .n (.bsl 0 1 [(u8 0)] []), none⟩, ⟨(some 47), .p (.mv (.t 6)), none⟩, ⟨(some 48), .p (.mv (.t 6)), none⟩, ⟨(some 49), .p (.lenS (.t 48)), none⟩, ⟨(some 50), .p (.bin .quo (.t 49) (.c (i64 16))), none⟩, ⟨(some 51), .p (.bin .mul (.t 50) (.c (i64 16))), none⟩, ⟨(some 52), .p (.slSl 1 (.t 47) (some (.t 51)) none none), none⟩, ⟨(some 53), .l (.app 1 1 (.t 46) (.t 52)), none⟩, ⟨(some 54), .p (.fieldA 8 (.t 2)), none⟩, ⟨none, .l (.st (.t 54) (.t 53)), none⟩]) <|
  .seq (.keep [2, 4]) <|
  .seq (.reg [⟨(some 55), .r (.ldN 9 (.t 2)), none⟩, ⟨none, .l (.stN 9 (.t 4) (.t 55)), none⟩, ⟨(some 5), .p (.mv (.c (i64 0))), none⟩]) <|
  .ret
def r36 : List ARes := [.cell 4 (some 9), .t 5]
/- archivolt/sums.End -/
def c37_0 : ACode :=
  .seq (.reg [⟨(some 26), .p (.bin .lss (.t 25) (.c (i64 4))), none⟩]) <|
  .seq (.cond (.t 26) (
    .skip) (
    .exit 0)) <|
  .seq (.keep [1, 2, 5, 25]) <|
  .seq (.blk 1 (
    .seq (.reg [⟨(some 27), .p (.mv (.t 25)), none⟩, ⟨(some 6), .p (.mv (.t 27)), none⟩]) <|
    .reg [⟨(some 28), .p (.mv (.t 5)), none⟩, ⟨(some 29), .p (.mv (.t 6)), none⟩, ⟨(some 30), .p (.fieldA 0 (.t 1)), none⟩, ⟨(some 31), .p (.idxA 8 1 (.t 30) (.t 29)), none⟩, ⟨(some 32), .r (.ld (.t 31)), none⟩, ⟨(some 33), .call (.st 58) [(.t 28), (.t 32), (.c (i64 4))], none⟩, ⟨(some 5), .p (.mv (.t 33)), none⟩])) <|
  .seq (.keep [1, 2, 5, 25]) <|
  .reg [⟨(some 34), .p (.bin .add (.t 25) (.c (i64 1))), none⟩, ⟨(some 25), .p (.mv (.t 34)), none⟩]
def c37 : ACode :=
  .seq (.reg [⟨(some 1), .n (.box (.t 0)), none⟩, ⟨(some 2), .n (.alloc (List.replicate 16 (u8 0))), none⟩, ⟨(some 3), .p (.mv (.c (i64 0))), none⟩]) <|
  .seq (.seq (.reg [⟨(some 7), .p (.fieldA 8 (.t 1)), none⟩, ⟨(some 8), .r (.ld (.t 7)), none⟩, ⟨(some 9), .p (.lenS (.t 8)), none⟩, ⟨(some 10), .p (.bin .geq (.t 9) (.c (i64 16))), none⟩]) <|
  .cond (.t 10) (
    .seq (.reg [⟨(some 11), .p (.build (List.replicate 16 (u8 0)) []), none⟩, ⟨none, .l (.stN 16 (.t 2) (.t 11)), none⟩, ⟨(some 3), .p (.mv (.c (i64 1))), none⟩]) <|
    .ret) (
    .skip)) <|
  .seq (.keep [1, 2]) <|
  .seq (.reg [⟨(some 12), .p (.fieldA 8 (.t 1)), none⟩, ⟨(some 13), .r (.ld (.t 12)), none⟩, ⟨(some 14), .p (.lenS (.t 13)), none⟩, ⟨(some 15), .p (.bin .sub (.c (i64 16)) (.t 14)), none⟩, ⟨(some 16), .n (.mksl 1 1 [(u8 0)] (.t 15) (.t 15)), none⟩, ⟨(some 4), .p (.mv (.t 16)), none⟩]) <|
  .seq (.keep [1, 2, 4]) <|
  .seq (.reg [⟨(some 17), .p (.mv (.t 4)), none⟩, ⟨(some 18), .p (.idxS 1 (.t 17) (.c (i64 0))), none⟩, ⟨none, .l (.st (.t 18) (.c (u8 128))), none⟩]) <|
  .seq (.reg [⟨(some 20), .r (.ldN 9 (.t 1)), none⟩, ⟨(some 21), .p (.mv (.t 4)), none⟩, ⟨(some 22), .call (.st 36) [(.t 20), (.t 21)], none⟩, ⟨(some 19), .p (.mv (.t 22)), none⟩, ⟨(some 23), .p (.ext (.t 19) 0), none⟩, ⟨(some 24), .p (.ext (.t 19) 1), none⟩, ⟨none, .l (.stN 9 (.t 1) (.t 23)), none⟩]) <|
  .seq (.keep [1, 2]) <|
  .seq (.reg [⟨(some 5), .p (.mv (.c .nils)), none⟩]) <|
  .seq (.seq (.reg [⟨(some 25), .p (.mv (.c (i64 0))), none⟩]) <|
  .blk 0 (
    .loop (.seq (.keep [1, 2, 5, 25]) c37_0))) <|
  .seq (.keep [2, 5]) <|
  .seq (.reg [⟨(some 35), .p (.mv (.t 5)), none⟩, ⟨(some 36), .p (.s2a 16 (.t 35)), none⟩, ⟨(some 37), .r (.ldN 16 (.t 36)), none⟩, ⟨none, .l (.stN 16 (.t 2) (.t 37)), none⟩, ⟨(some 3), .p (.mv (.c (i64 0))), none⟩]) <|
  .ret
def r37 : List ARes := [.cell 2 (some 16), .t 3]
/- archivolt/archivoltref02.SameSponge -/
def c38 : ACode :=
  .seq (.reg [⟨(some 2), .n (.box (.t 0)), none⟩, ⟨(some 3), .n (.box (.t 1)), none⟩, ⟨(some 4), .p (.mv (.c (.bool false))), none⟩]) <|
  .seq (.reg [⟨(some 5), .p (.fieldA 0 (.t 2)), none⟩, ⟨(some 6), .r (.ldN 8 (.t 5)), none⟩, ⟨(some 7), .p (.fieldA 0 (.t 3)), none⟩, ⟨(some 8), .r (.ldN 8 (.t 7)), none⟩, ⟨(some 9), .p (.eqv false (.flat [.int, .int, .int, .int, .int, .int, .int, .int]) (.t 6) (.t 8)), none⟩, ⟨(some 10), .p (.mv (.t 9)), none⟩, ⟨(some 11), .p (.fieldA 8 (.t 2)), some (10, true)⟩, ⟨(some 12), .r (.ld (.t 11)), some (10, true)⟩, ⟨(some 13), .r (.b2s (.t 12)), some (10, true)⟩, ⟨(some 14), .p (.fieldA 8 (.t 3)), some (10, true)⟩, ⟨(some 15), .r (.ld (.t 14)), some (10, true)⟩, ⟨(some 16), .r (.b2s (.t 15)), some (10, true)⟩, ⟨(some 17), .p (.bin .eql (.t 13) (.t 16)), some (10, true)⟩, ⟨(some 18), .p (.pick (.t 10) (.t 17) (.c (.bool false))), none⟩, ⟨(some 4), .p (.mv (.t 18)), none⟩]) <|
  .ret
def r38 : List ARes := [.t 4]
/- archivolt/sums.Digest -/
def c39 : ACode :=
  .seq (.reg [⟨(some 2), .n (.alloc (List.replicate 16 (u8 0))), none⟩]) <|
  .seq (.reg [⟨(some 8), .call (.st 35) [], none⟩, ⟨(some 9), .p (.mv (.t 0)), none⟩, ⟨(some 10), .call (.st 36) [(.t 8), (.t 9)], none⟩, ⟨(some 7), .p (.mv (.t 10)), none⟩, ⟨(some 11), .p (.ext (.t 7) 0), none⟩, ⟨(some 12), .p (.ext (.t 7) 1), none⟩, ⟨(some 3), .n (.alloc [(u32 0), (u32 0), (u32 0), (u32 0), (u32 0), (u32 0), (u32 0), (u32 0), .nils]), none⟩, ⟨none, .l (.stN 9 (.t 3) (.t 11)), none⟩, ⟨(some 4), .p (.mv (.t 12)), none⟩]) <|
  .seq (.keep [2, 3]) <|
  .seq (.reg [⟨(some 14), .r (.ldN 9 (.t 3)), none⟩, ⟨(some 15), .call (.st 37) [(.t 14)], none⟩, ⟨(some 13), .p (.mv (.t 15)), none⟩, ⟨(some 16), .p (.ext (.t 13) 0), none⟩, ⟨(some 17), .p (.ext (.t 13) 1), none⟩, ⟨(some 5), .n (.alloc (List.replicate 16 (u8 0))), none⟩, ⟨none, .l (.stN 16 (.t 5) (.t 16)), none⟩, ⟨(some 6), .p (.mv (.t 17)), none⟩]) <|
  .seq (.keep [2, 5]) <|
  .seq (.reg [⟨(some 18), .r (.ldN 16 (.t 5)), none⟩, ⟨none, .l (.stN 16 (.t 2) (.t 18)), none⟩]) <|
  .ret
def r39 : List ARes := [.cell 2 (some 16)]
/- archivolt/sums.Undo -/
def c40_1 : ACode :=
  .seq (.reg [⟨(some 19), .p (.bin .lss (.t 18) (.c (i64 4))), none⟩]) <|
  .seq (.cond (.t 19) (
    .skip) (
    .exit 2)) <|
  .seq (.keep [1, 2, 3, 18]) <|
  .seq (.blk 3 (
    .seq (.reg [⟨(some 20), .p (.mv (.t 18)), none⟩, ⟨(some 5), .p (.mv (.t 20)), none⟩]) <|
    .seq (.reg [⟨(some 21), .p (.mv (.t 5)), none⟩, ⟨(some 22), .p (.idxA 8 1 (.t 1) (.t 21)), none⟩, ⟨(some 23), .r (.ld (.t 22)), none⟩, ⟨(some 24), .call (.st 59) [(.t 23), (.c (i64 16))], none⟩, ⟨(some 6), .p (.mv (.t 24)), none⟩]) <|
    .seq (.reg [⟨(some 25), .p (.mv (.t 5)), none⟩, ⟨(some 26), .p (.bin .add (.t 25) (.c (i64 4))), none⟩, ⟨(some 27), .p (.mv (.t 5)), none⟩, ⟨(some 28), .p (.bin .add (.t 27) (.c (i64 4))), none⟩, ⟨(some 29), .p (.idxA 8 1 (.t 1) (.t 28)), none⟩, ⟨(some 30), .r (.ld (.t 29)), none⟩, ⟨(some 31), .p (.mv (.t 6)), none⟩, ⟨(some 32), .p (.bin .xor (.t 30) (.t 31)), none⟩, ⟨(some 33), .call (.st 59) [(.t 32), (.c (i64 (-7)))], none⟩, ⟨(some 34), .p (.idxA 8 1 (.t 1) (.t 26)), none⟩, ⟨none, .l (.st (.t 34) (.t 33)), none⟩]) <|
    .seq (.keep [1, 2, 3, 5, 6, 18]) <|
    .reg [⟨(some 35), .p (.mv (.t 5)), none⟩, ⟨(some 36), .p (.mv (.t 6)), none⟩, ⟨(some 37), .p (.mv (.t 5)), none⟩, ⟨(some 38), .p (.bin .add (.t 37) (.c (i64 4))), none⟩, ⟨(some 39), .p (.idxA 8 1 (.t 1) (.t 38)), none⟩, ⟨(some 40), .r (.ld (.t 39)), none⟩, ⟨(some 41), .p (.bin .sub (.t 36) (.t 40)), none⟩, ⟨(some 42), .p (.idxA 8 1 (.t 1) (.t 35)), none⟩, ⟨none, .l (.st (.t 42) (.t 41)), none⟩])) <|
  .seq (.keep [1, 2, 3, 18]) <|
  .reg [⟨(some 43), .p (.bin .add (.t 18) (.c (i64 1))), none⟩, ⟨(some 18), .p (.mv (.t 43)), none⟩]
def c40_0 : ACode :=
  .seq (.seq (.reg [⟨(some 7), .p (.mv (.t 3)), none⟩, ⟨(some 8), .p (.bin .geq (.t 7) (.c (i64 0))), none⟩]) <|
  .cond (.t 8) (
    .skip) (
    .exit 0)) <|
  .seq (.keep [1, 2, 3]) <|
  .seq (.blk 1 (
    .seq (.reg [⟨(some 11), .p (.idxA 8 1 (.t 1) (.c (i64 7))), none⟩, ⟨(some 12), .r (.ld (.t 11)), none⟩, ⟨(some 4), .p (.mv (.t 12)), none⟩]) <|
    .seq (.drw [(⟨(some 13), .p (.slArr 8 1 (.t 1) (some (.c (i64 5))) (some (.c (i64 8))) none), none⟩, [], false), (⟨(some 14), .p (.slArr 8 1 (.t 1) (some (.c (i64 4))) (some (.c (i64 7))) none), none⟩, [], false), (⟨(some 15), .l (.cpy 1 (.t 13) (.t 14)), none⟩, [], true)]) <|
    .seq (.keep [1, 2, 3, 4]) <|
    .seq (.reg [⟨(some 16), .p (.mv (.t 4)), none⟩, ⟨(some 17), .p (.idxA 8 1 (.t 1) (.c (i64 4))), none⟩, ⟨none, .l (.st (.t 17) (.t 16)), none⟩]) <|
    .seq (.seq (.reg [⟨(some 18), .p (.mv (.c (i64 0))), none⟩]) <|
    .blk 2 (
      .loop (.seq (.keep [1, 2, 3, 18]) c40_1))) <|
    .seq (.keep [1, 2, 3]) <|
    .reg [⟨(some 44), .p (.idxA 8 1 (.t 1) (.c (i64 0))), none⟩, ⟨(some 45), .r (.ld (.t 44)), none⟩, ⟨(some 46), .p (.mv (.t 3)), none⟩, ⟨(some 47), .p (.bin .add (.t 46) (.c (i64 1))), none⟩, ⟨(some 48), .p (.conv .u32 (.t 47)), none⟩, ⟨(some 49), .p (.bin .mul (.t 48) (.c (u32 2654435769))), none⟩, ⟨(some 50), .p (.bin .xor (.t 45) (.t 49)), none⟩, ⟨(some 51), .p (.idxA 8 1 (.t 1) (.c (i64 0))), none⟩, ⟨none, .l (.st (.t 51) (.t 50)), none⟩])) <|
  .seq (.keep [1, 2, 3]) <|
  .reg [⟨(some 9), .p (.mv (.t 3)), none⟩, ⟨(some 10), .p (.bin .sub (.t 9) (.c (i64 1))), none⟩, ⟨(some 3), .p (.mv (.t 10)), none⟩]
def c40 : ACode :=
  .seq (.reg [⟨(some 1), .n (.box (.t 0)), none⟩, ⟨(some 2), .n (.alloc (List.replicate 8 (u32 0))), none⟩]) <|
  .seq (.seq (.reg [⟨(some 3), .p (.mv (.c (i64 11))), none⟩]) <|
  .blk 0 (
    .loop (.seq (.keep [1, 2, 3]) c40_0))) <|
  .seq (.keep [1, 2]) <|
  .seq (.reg [⟨(some 52), .r (.ldN 8 (.t 1)), none⟩, ⟨none, .l (.stN 8 (.t 2) (.t 52)), none⟩]) <|
  .ret
def r40 : List ARes := [.cell 2 (some 8)]
/- archivolt/sums.Permute -/
def c41_1 : ACode :=
  .seq (.reg [⟨(some 19), .p (.bin .lss (.t 18) (.c (i64 4))), none⟩]) <|
  .seq (.cond (.t 19) (
    .skip) (
    .exit 2)) <|
  .seq (.keep [1, 2, 7, 18]) <|
  .seq (.blk 3 (
    .seq (.reg [⟨(some 20), .p (.mv (.t 18)), none⟩, ⟨(some 4), .p (.mv (.t 20)), none⟩]) <|
    .seq (.drw [(⟨(some 21), .p (.mv (.t 4)), none⟩, [], false), (⟨(some 22), .p (.idxA 8 1 (.t 1) (.t 21)), none⟩, [], false), (⟨(some 23), .r (.ld (.t 22)), none⟩, [], false), (⟨(some 24), .p (.mv (.t 4)), none⟩, [], false), (⟨(some 25), .p (.bin .add (.t 24) (.c (i64 4))), none⟩, [], false), (⟨(some 26), .p (.idxA 8 1 (.t 1) (.t 25)), none⟩, [], false), (⟨(some 27), .r (.ld (.t 26)), none⟩, [], false), (⟨(some 28), .p (.bin .add (.t 23) (.t 27)), none⟩, [], true), (⟨(some 5), .p (.mv (.t 28)), none⟩, [], true)]) <|
    .seq (.keep [1, 2, 4, 5, 7, 18]) <|
    .seq (.reg [⟨(some 29), .p (.mv (.t 4)), none⟩, ⟨(some 30), .p (.bin .add (.t 29) (.c (i64 4))), none⟩, ⟨(some 31), .p (.mv (.t 4)), none⟩, ⟨(some 32), .p (.bin .add (.t 31) (.c (i64 4))), none⟩, ⟨(some 33), .p (.idxA 8 1 (.t 1) (.t 32)), none⟩, ⟨(some 34), .r (.ld (.t 33)), none⟩, ⟨(some 35), .call (.st 59) [(.t 34), (.c (i64 7))], none⟩, ⟨(some 36), .p (.mv (.t 5)), none⟩, ⟨(some 37), .p (.bin .xor (.t 35) (.t 36)), none⟩, ⟨(some 38), .p (.idxA 8 1 (.t 1) (.t 30)), none⟩, ⟨none, .l (.st (.t 38) (.t 37)), none⟩]) <|
    .seq (.keep [1, 2, 4, 5, 7, 18]) <|
    .reg [⟨(some 39), .p (.mv (.t 4)), none⟩, ⟨(some 40), .p (.mv (.t 5)), none⟩, ⟨(some 41), .call (.st 59) [(.t 40), (.c (i64 16))], none⟩, ⟨(some 42), .p (.idxA 8 1 (.t 1) (.t 39)), none⟩, ⟨none, .l (.st (.t 42) (.t 41)), none⟩])) <|
  .seq (.keep [1, 2, 7, 18]) <|
  .reg [⟨(some 43), .p (.bin .add (.t 18) (.c (i64 1))), none⟩, ⟨(some 18), .p (.mv (.t 43)), none⟩]
def c41_0 : ACode :=
  .seq (.reg [⟨(some 8), .p (.bin .lss (.t 7) (.c (i64 12))), none⟩]) <|
  .seq (.cond (.t 8) (
    .skip) (
    .exit 0)) <|
  .seq (.keep [1, 2, 7]) <|
  .seq (.blk 1 (
    .seq (.reg [⟨(some 9), .p (.mv (.t 7)), none⟩, ⟨(some 3), .p (.mv (.t 9)), none⟩]) <|
    .seq (.reg [⟨(some 10), .p (.idxA 8 1 (.t 1) (.c (i64 0))), none⟩, ⟨(some 11), .r (.ld (.t 10)), none⟩, ⟨(some 12), .p (.mv (.t 3)), none⟩, ⟨(some 13), .p (.bin .add (.t 12) (.c (i64 1))), none⟩, ⟨(some 14), .p (.conv .u32 (.t 13)), none⟩, ⟨(some 15), .p (.bin .mul (.t 14) (.c (u32 2654435769))), none⟩, ⟨(some 16), .p (.bin .xor (.t 11) (.t 15)), none⟩, ⟨(some 17), .p (.idxA 8 1 (.t 1) (.c (i64 0))), none⟩, ⟨none, .l (.st (.t 17) (.t 16)), none⟩]) <|
    .seq (.keep [1, 2, 7]) <|
    .seq (.seq (.reg [⟨(some 18), .p (.mv (.c (i64 0))), none⟩]) <|
    .blk 2 (
      .loop (.seq (.keep [1, 2, 7, 18]) c41_1))) <|
    .seq (.keep [1, 2, 7]) <|
    .seq (.reg [⟨(some 44), .p (.idxA 8 1 (.t 1) (.c (i64 4))), none⟩, ⟨(some 45), .r (.ld (.t 44)), none⟩, ⟨(some 6), .p (.mv (.t 45)), none⟩]) <|
    .seq (.drw [(⟨(some 46), .p (.slArr 8 1 (.t 1) (some (.c (i64 4))) (some (.c (i64 7))) none), none⟩, [], false), (⟨(some 47), .p (.slArr 8 1 (.t 1) (some (.c (i64 5))) (some (.c (i64 8))) none), none⟩, [], false), (⟨(some 48), .l (.cpy 1 (.t 46) (.t 47)), none⟩, [], true)]) <|
    .seq (.keep [1, 2, 6, 7]) <|
    .reg [⟨(some 49), .p (.mv (.t 6)), none⟩, ⟨(some 50), .p (.idxA 8 1 (.t 1) (.c (i64 7))), none⟩, ⟨none, .l (.st (.t 50) (.t 49)), none⟩])) <|
  .seq (.keep [1, 2, 7]) <|
  .reg [⟨(some 51), .p (.bin .add (.t 7) (.c (i64 1))), none⟩, ⟨(some 7), .p (.mv (.t 51)), none⟩]
def c41 : ACode :=
  .seq (.reg [⟨(some 1), .n (.box (.t 0)), none⟩, ⟨(some 2), .n (.alloc (List.replicate 8 (u32 0))), none⟩]) <|
  .seq (.seq (.reg [⟨(some 7), .p (.mv (.c (i64 0))), none⟩]) <|
  .blk 0 (
    .loop (.seq (.keep [1, 2, 7]) c41_0))) <|
  .seq (.keep [1, 2]) <|
  .seq (.reg [⟨(some 52), .r (.ldN 8 (.t 1)), none⟩, ⟨none, .l (.stN 8 (.t 2) (.t 52)), none⟩]) <|
  .ret
def r41 : List ARes := [.cell 2 (some 8)]
/- archivolt/sums.Collide -/
def c42_0 : ACode :=
  .seq (.reg [⟨(some 44), .p (.bin .lss (.t 43) (.t 42)), none⟩]) <|
  .seq (.cond (.t 44) (
    .skip) (
    .exit 0)) <|
  .seq (.keep [15, 17, 42, 43]) <|
  .seq (.blk 1 (
    .seq (.reg [⟨(some 45), .p (.mv (.t 43)), none⟩, ⟨(some 18), .p (.mv (.t 45)), none⟩]) <|
    .seq (.drw [(⟨(some 46), .p (.mv (.t 15)), none⟩, [], false), (⟨(some 47), .p (.mv (.t 18)), none⟩, [], false), (⟨(some 48), .p (.idxS 1 (.t 46) (.t 47)), none⟩, [], false), (⟨(some 49), .r (.ld (.t 48)), none⟩, [], false), (⟨(some 50), .r (.b2s (.t 49)), none⟩, [], false), (⟨(some 51), .p (.mv (.t 17)), none⟩, [], false), (⟨(some 52), .p (.mv (.t 18)), none⟩, [], false), (⟨(some 53), .p (.idxS 1 (.t 51) (.t 52)), none⟩, [], false), (⟨(some 54), .r (.ld (.t 53)), none⟩, [], false), (⟨(some 55), .r (.b2s (.t 54)), none⟩, [], false), (⟨(some 56), .p (.bin .neq (.t 50) (.t 55)), none⟩, [], true), (⟨(some 57), .p (.mv (.t 56)), none⟩, [], true), (⟨(some 58), .p (.mv (.t 15)), some (57, true)⟩, [], false), (⟨(some 59), .p (.mv (.t 18)), some (57, true)⟩, [], false), (⟨(some 60), .p (.idxS 1 (.t 58) (.t 59)), some (57, true)⟩, [], false), (⟨(some 61), .r (.ld (.t 60)), some (57, true)⟩, [], false), (⟨(some 62), .call (.st 39) [(.t 61)], some (57, true)⟩, [], false), (⟨(some 63), .p (.mv (.t 17)), some (57, true)⟩, [0], false), (⟨(some 64), .p (.mv (.t 18)), some (57, true)⟩, [0], false), (⟨(some 65), .p (.idxS 1 (.t 63) (.t 64)), some (57, true)⟩, [0], false), (⟨(some 66), .r (.ld (.t 65)), some (57, true)⟩, [0], false), (⟨(some 67), .call (.st 39) [(.t 66)], some (57, true)⟩, [], true), (⟨(some 68), .p (.eqv false (.flat [.int, .int, .int, .int, .int, .int, .int, .int, .int, .int, .int, .int, .int, .int, .int, .int]) (.t 62) (.t 67)), some (57, true)⟩, [], true), (⟨(some 69), .p (.pick (.t 57) (.t 68) (.c (.bool false))), none⟩, [], true)]) <|
    .seq (.keep [15, 17, 18, 42, 43, 69]) <|
    .cond (.t 69) (
      .seq (.drw [(⟨(some 70), .p (.mv (.t 15)), none⟩, [], false), (⟨(some 71), .p (.mv (.t 18)), none⟩, [], false), (⟨(some 72), .p (.idxS 1 (.t 70) (.t 71)), none⟩, [], false), (⟨(some 73), .r (.ld (.t 72)), none⟩, [], false), (⟨(some 74), .p (.mv (.t 17)), none⟩, [], false), (⟨(some 75), .p (.mv (.t 18)), none⟩, [], false), (⟨(some 76), .p (.idxS 1 (.t 74) (.t 75)), none⟩, [], false), (⟨(some 77), .r (.ld (.t 76)), none⟩, [], false), (⟨(some 12), .p (.mv (.t 73)), none⟩, [], false), (⟨(some 13), .p (.mv (.t 77)), none⟩, [], true), (⟨(some 14), .p (.mv (.c (i64 0))), none⟩, [], true)]) <|
      .ret) (
      .skip))) <|
  .seq (.keep [15, 17, 42, 43]) <|
  .reg [⟨(some 78), .p (.bin .add (.t 43) (.c (i64 1))), none⟩, ⟨(some 43), .p (.mv (.t 78)), none⟩]
def c42 : ACode :=
  .seq (.reg [⟨(some 12), .p (.mv (.c .nils)), none⟩, ⟨(some 13), .p (.mv (.c .nils)), none⟩, ⟨(some 14), .p (.mv (.c (i64 0))), none⟩]) <|
  .seq (.reg [⟨(some 20), .p (.mv (.t 0)), none⟩, ⟨(some 21), .p (.mv (.t 1)), none⟩, ⟨(some 22), .p (.mv (.t 2)), none⟩, ⟨(some 23), .p (.mv (.t 3)), none⟩, ⟨(some 24), .call (.st 52) [(.t 20), (.t 21), (.t 22), (.t 23)], none⟩, ⟨(some 19), .p (.mv (.t 24)), none⟩, ⟨(some 25), .p (.ext (.t 19) 0), none⟩, ⟨(some 26), .p (.ext (.t 19) 1), none⟩, ⟨(some 15), .p (.mv (.t 25)), none⟩, ⟨(some 16), .p (.mv (.t 26)), none⟩]) <|
  .seq (.keep [0, 1, 4, 5, 15, 16]) <|
  .seq (.seq (.reg [⟨(some 27), .p (.mv (.t 16)), none⟩, ⟨(some 28), .p (.bin .neq (.t 27) (.c (i64 0))), none⟩]) <|
  .cond (.t 28) (
    .seq (.reg [⟨(some 29), .p (.mv (.t 16)), none⟩, ⟨(some 12), .p (.mv (.c .nils)), none⟩, ⟨(some 13), .p (.mv (.c .nils)), none⟩, ⟨(some 14), .p (.mv (.t 29)), none⟩]) <|
    .ret) (
    .skip)) <|
  .seq (.keep [0, 1, 4, 5, 15]) <|
  .seq (.reg [⟨(some 31), .p (.mv (.t 0)), none⟩, ⟨(some 32), .p (.mv (.t 1)), none⟩, ⟨(some 33), .p (.mv (.t 4)), none⟩, ⟨(some 34), .p (.mv (.t 5)), none⟩, ⟨(some 35), .call (.st 52) [(.t 31), (.t 32), (.t 33), (.t 34)], none⟩, ⟨(some 30), .p (.mv (.t 35)), none⟩, ⟨(some 36), .p (.ext (.t 30) 0), none⟩, ⟨(some 37), .p (.ext (.t 30) 1), none⟩, ⟨(some 17), .p (.mv (.t 36)), none⟩, ⟨(some 16), .p (.mv (.t 37)), none⟩]) <|
  .seq (.keep [15, 16, 17]) <|
  .seq (.seq (.reg [⟨(some 38), .p (.mv (.t 16)), none⟩, ⟨(some 39), .p (.bin .neq (.t 38) (.c (i64 0))), none⟩]) <|
  .cond (.t 39) (
    .seq (.reg [⟨(some 40), .p (.mv (.t 16)), none⟩, ⟨(some 12), .p (.mv (.c .nils)), none⟩, ⟨(some 13), .p (.mv (.c .nils)), none⟩, ⟨(some 14), .p (.mv (.t 40)), none⟩]) <|
    .ret) (
    .skip)) <|
  .seq (.keep [15, 17]) <|
  .seq (.seq (.reg [⟨(some 41), .p (.mv (.t 15)), none⟩, ⟨(some 42), .p (.lenS (.t 41)), none⟩, ⟨(some 43), .p (.mv (.c (i64 0))), none⟩]) <|
  .blk 0 (
    .loop (.seq (.keep [15, 17, 42, 43]) c42_0))) <|
  .seq (.keep []) <|
  .seq (.reg [⟨(some 12), .p (.mv (.c .nils)), none⟩, ⟨(some 13), .p (.mv (.c .nils)), none⟩, ⟨(some 14), .p (.mv (.c (i64 3))), none⟩]) <|
  .ret
def r42 : List ARes := [.t 12, .t 13, .t 14]
/- archivolt/archivoltref02.Collide -/
def c43_0 : ACode :=
  .seq (.seq (.reg [⟨(some 41), .p (.mv (.t 18)), none⟩, ⟨(some 42), .p (.mv (.t 15)), none⟩, ⟨(some 43), .p (.lenS (.t 42)), none⟩, ⟨(some 44), .p (.bin .lss (.t 41) (.t 43)), none⟩]) <|
  .cond (.t 44) (
    .skip) (
    .exit 0)) <|
  .seq (.keep [15, 17, 18]) <|
  .seq (.blk 1 (
    .seq (.drw [(⟨(some 47), .p (.mv (.t 15)), none⟩, [], false), (⟨(some 48), .p (.mv (.t 18)), none⟩, [], false), (⟨(some 49), .p (.idxS 1 (.t 47) (.t 48)), none⟩, [], false), (⟨(some 50), .r (.ld (.t 49)), none⟩, [], false), (⟨(some 51), .r (.b2s (.t 50)), none⟩, [], false), (⟨(some 52), .p (.mv (.t 17)), none⟩, [], false), (⟨(some 53), .p (.mv (.t 18)), none⟩, [], false), (⟨(some 54), .p (.idxS 1 (.t 52) (.t 53)), none⟩, [], false), (⟨(some 55), .r (.ld (.t 54)), none⟩, [], false), (⟨(some 56), .r (.b2s (.t 55)), none⟩, [], false), (⟨(some 57), .p (.bin .neq (.t 51) (.t 56)), none⟩, [], true), (⟨(some 58), .p (.mv (.t 57)), none⟩, [], true), (⟨(some 59), .p (.mv (.t 15)), some (58, true)⟩, [], false), (⟨(some 60), .p (.mv (.t 18)), some (58, true)⟩, [], false), (⟨(some 61), .p (.idxS 1 (.t 59) (.t 60)), some (58, true)⟩, [], false), (⟨(some 62), .r (.ld (.t 61)), some (58, true)⟩, [], false), (⟨(some 63), .call (.st 54) [(.t 62)], some (58, true)⟩, [], false), (⟨(some 64), .p (.mv (.t 17)), some (58, true)⟩, [0], false), (⟨(some 65), .p (.mv (.t 18)), some (58, true)⟩, [0], false), (⟨(some 66), .p (.idxS 1 (.t 64) (.t 65)), some (58, true)⟩, [0], false), (⟨(some 67), .r (.ld (.t 66)), some (58, true)⟩, [0], false), (⟨(some 68), .call (.st 54) [(.t 67)], some (58, true)⟩, [], true), (⟨(some 69), .p (.eqv false (.flat [.int, .int, .int, .int, .int, .int, .int, .int, .int, .int, .int, .int, .int, .int, .int, .int]) (.t 63) (.t 68)), some (58, true)⟩, [], true), (⟨(some 70), .p (.pick (.t 58) (.t 69) (.c (.bool false))), none⟩, [], true)]) <|
    .seq (.keep [15, 17, 18, 70]) <|
    .cond (.t 70) (
      .seq (.drw [(⟨(some 71), .p (.mv (.t 15)), none⟩, [], false), (⟨(some 72), .p (.mv (.t 18)), none⟩, [], false), (⟨(some 73), .p (.idxS 1 (.t 71) (.t 72)), none⟩, [], false), (⟨(some 74), .r (.ld (.t 73)), none⟩, [], false), (⟨(some 75), .p (.mv (.t 17)), none⟩, [], false), (⟨(some 76), .p (.mv (.t 18)), none⟩, [], false), (⟨(some 77), .p (.idxS 1 (.t 75) (.t 76)), none⟩, [], false), (⟨(some 78), .r (.ld (.t 77)), none⟩, [], false), (⟨(some 12), .p (.mv (.t 74)), none⟩, [], false), (⟨(some 13), .p (.mv (.t 78)), none⟩, [], true), (⟨(some 14), .p (.mv (.c (i64 0))), none⟩, [], true)]) <|
      .ret) (
      .skip))) <|
  .seq (.keep [15, 17, 18]) <|
  .reg [⟨(some 45), .p (.mv (.t 18)), none⟩, ⟨(some 46), .p (.bin .add (.t 45) (.c (i64 1))), none⟩, ⟨(some 18), .p (.mv (.t 46)), none⟩]
def c43 : ACode :=
  .seq (.reg [⟨(some 12), .p (.mv (.c .nils)), none⟩, ⟨(some 13), .p (.mv (.c .nils)), none⟩, ⟨(some 14), .p (.mv (.c (i64 0))), none⟩]) <|
  .seq (.reg [⟨(some 20), .p (.mv (.t 0)), none⟩, ⟨(some 21), .p (.mv (.t 1)), none⟩, ⟨(some 22), .p (.mv (.t 2)), none⟩, ⟨(some 23), .p (.mv (.t 3)), none⟩, ⟨(some 24), .call (.st 53) [(.t 20), (.t 21), (.t 22), (.t 23)], none⟩, ⟨(some 19), .p (.mv (.t 24)), none⟩, ⟨(some 25), .p (.ext (.t 19) 0), none⟩, ⟨(some 26), .p (.ext (.t 19) 1), none⟩, ⟨(some 15), .p (.mv (.t 25)), none⟩, ⟨(some 16), .p (.mv (.t 26)), none⟩]) <|
  .seq (.keep [0, 1, 4, 5, 15, 16]) <|
  .seq (.seq (.reg [⟨(some 27), .p (.mv (.t 16)), none⟩, ⟨(some 28), .p (.bin .neq (.t 27) (.c (i64 0))), none⟩]) <|
  .cond (.t 28) (
    .seq (.reg [⟨(some 29), .p (.mv (.t 16)), none⟩, ⟨(some 12), .p (.mv (.c .nils)), none⟩, ⟨(some 13), .p (.mv (.c .nils)), none⟩, ⟨(some 14), .p (.mv (.t 29)), none⟩]) <|
    .ret) (
    .skip)) <|
  .seq (.keep [0, 1, 4, 5, 15]) <|
  .seq (.reg [⟨(some 31), .p (.mv (.t 0)), none⟩, ⟨(some 32), .p (.mv (.t 1)), none⟩, ⟨(some 33), .p (.mv (.t 4)), none⟩, ⟨(some 34), .p (.mv (.t 5)), none⟩, ⟨(some 35), .call (.st 53) [(.t 31), (.t 32), (.t 33), (.t 34)], none⟩, ⟨(some 30), .p (.mv (.t 35)), none⟩, ⟨(some 36), .p (.ext (.t 30) 0), none⟩, ⟨(some 37), .p (.ext (.t 30) 1), none⟩, ⟨(some 17), .p (.mv (.t 36)), none⟩, ⟨(some 16), .p (.mv (.t 37)), none⟩]) <|
  .seq (.keep [15, 16, 17]) <|
  .seq (.seq (.reg [⟨(some 38), .p (.mv (.t 16)), none⟩, ⟨(some 39), .p (.bin .neq (.t 38) (.c (i64 0))), none⟩]) <|
  .cond (.t 39) (
    .seq (.reg [⟨(some 40), .p (.mv (.t 16)), none⟩, ⟨(some 12), .p (.mv (.c .nils)), none⟩, ⟨(some 13), .p (.mv (.c .nils)), none⟩, ⟨(some 14), .p (.mv (.t 40)), none⟩]) <|
    .ret) (
    .skip)) <|
  .seq (.keep [15, 17]) <|
  .seq (.seq (.reg [⟨(some 18), .p (.mv (.c (i64 0))), none⟩]) <|
  .blk 0 (
    .loop (.seq (.keep [15, 17, 18]) c43_0))) <|
  .seq (.keep []) <|
  .seq (.reg [⟨(some 12), .p (.mv (.c .nils)), none⟩, ⟨(some 13), .p (.mv (.c .nils)), none⟩, ⟨(some 14), .p (.mv (.c (i64 3))), none⟩]) <|
  .ret
def r43 : List ARes := [.t 12, .t 13, .t 14]
/- archivolt/sums.Join -/
def c44_0 : ACode :=
  .seq (.reg [⟨(some 17), .p (.bin .lss (.t 16) (.c (i64 32))), none⟩]) <|
  .seq (.cond (.t 17) (
    .skip) (
    .exit 0)) <|
  .seq (.keep [0, 1, 2, 8, 9, 16]) <|
  .seq (.blk 1 (
    .seq (.reg [⟨(some 18), .p (.mv (.t 16)), none⟩, ⟨(some 10), .p (.mv (.t 18)), none⟩]) <|
    .reg [⟨(some 19), .p (.mv (.t 10)), none⟩, ⟨(some 20), .p (.mv (.t 8)), none⟩, ⟨(some 21), .p (.mv (.t 10)), none⟩, ⟨(some 22), .p (.bin .shl (.c (u32 1)) (.t 21)), none⟩, ⟨(some 23), .call (.dyn (.t 20)) [(.t 22), (.c (u8 0))], none⟩, ⟨(some 24), .p (.idxA 32 1 (.t 9) (.t 19)), none⟩, ⟨none, .l (.st (.t 24) (.t 23)), none⟩])) <|
  .seq (.keep [0, 1, 2, 8, 9, 16]) <|
  .reg [⟨(some 25), .p (.bin .add (.t 16) (.c (i64 1))), none⟩, ⟨(some 16), .p (.mv (.t 25)), none⟩]
def c44_1 : ACode :=
  .seq (.seq (.reg [⟨(some 26), .p (.mv (.t 2)), none⟩, ⟨(some 27), .p (.bin .gtr (.t 26) (.c (i64 0))), none⟩]) <|
  .cond (.t 27) (
    .skip) (
    .exit 2)) <|
  .seq (.keep [0, 1, 2, 9]) <|
  .seq (.blk 3 (
    .seq (.seq (.reg [⟨(some 30), .p (.mv (.t 2)), none⟩, ⟨(some 31), .p (.bin .and (.t 30) (.c (i64 1))), none⟩, ⟨(some 32), .p (.bin .eql (.t 31) (.c (i64 1))), none⟩]) <|
    .cond (.t 32) (
      .reg [⟨(some 33), .p (.mv (.t 0)), none⟩, ⟨(some 34), .call (.st 60) [(.t 9), (.t 33)], none⟩, ⟨(some 0), .p (.mv (.t 34)), none⟩]) (
      .skip)) <|
    .seq (.keep [0, 1, 2, 9]) <|
    .reg [⟨(some 35), .call (.st 61) [(.t 9)], none⟩, ⟨none, .l (.stN 32 (.t 9) (.t 35)), none⟩])) <|
  .seq (.keep [0, 1, 2, 9]) <|
  .reg [⟨(some 28), .p (.mv (.t 2)), none⟩, ⟨(some 29), .p (.bin .shr (.t 28) (.c (u64 1))), none⟩, ⟨(some 2), .p (.mv (.t 29)), none⟩]
def c44 : ACode :=
  .seq (.reg [⟨(some 6), .p (.mv (.c (u32 0))), none⟩, ⟨(some 7), .p (.mv (.c (i64 0))), none⟩]) <|
  .seq (.seq (.reg [⟨(some 11), .p (.mv (.t 2)), none⟩, ⟨(some 12), .p (.bin .lss (.t 11) (.c (i64 0))), none⟩]) <|
  .cond (.t 12) (
    .seq (.reg [⟨(some 6), .p (.mv (.c (u32 0))), none⟩, ⟨(some 7), .p (.mv (.c (i64 1))), none⟩]) <|
    .ret) (
    .skip)) <|
  .seq (.keep [0, 1, 2]) <|
  .seq (.seq (.reg [⟨(some 13), .p (.mv (.t 2)), none⟩, ⟨(some 14), .p (.bin .gtr (.t 13) (.c (i64 2147483647))), none⟩]) <|
  .cond (.t 14) (
    .seq (.reg [⟨(some 6), .p (.mv (.c (u32 0))), none⟩, ⟨(some 7), .p (.mv (.c (i64 2))), none⟩]) <|
    .ret) (
    .skip)) <|
  .seq (.keep [0, 1, 2]) <|
  .seq (.reg [⟨(some 15), .call (.st 55) [(.c (u32 3252574743))], none⟩, ⟨(some 8), .p (.mv (.t 15)), none⟩]) <|
  .seq (.reg [⟨(some 9), .n (.alloc (List.replicate 32 (u32 0))), none⟩]) <|
  .seq (.seq (.reg [⟨(some 16), .p (.mv (.c (i64 0))), none⟩]) <|
  .blk 0 (
    .loop (.seq (.keep [0, 1, 2, 8, 9, 16]) c44_0))) <|
  .seq (.keep [0, 1, 2, 9]) <|
  .seq (.blk 2 (
    .loop (.seq (.keep [0, 1, 2, 9]) c44_1))) <|
  .seq (.keep [0, 1]) <|
  .seq (.reg [⟨(some 36), .p (.mv (.t 0)), none⟩, ⟨(some 37), .p (.mv (.t 1)), none⟩, ⟨(some 38), .p (.bin .xor (.t 36) (.t 37)), none⟩, ⟨(some 6), .p (.mv (.t 38)), none⟩, ⟨(some 7), .p (.mv (.c (i64 0))), none⟩]) <|
  .ret
def r44 : List ARes := [.t 6, .t 7]
/- archivolt/archivoltref02.Join -/
def c45_0 : ACode :=
  .seq (.seq (.reg [⟨(some 16), .p (.mv (.t 9)), none⟩, ⟨(some 17), .p (.bin .lss (.t 16) (.c (i64 32))), none⟩]) <|
  .cond (.t 17) (
    .skip) (
    .exit 0)) <|
  .seq (.keep [0, 1, 2, 8, 9]) <|
  .seq (.blk 1 (
    .reg [⟨(some 20), .p (.mv (.t 9)), none⟩, ⟨(some 21), .p (.mv (.t 9)), none⟩, ⟨(some 22), .p (.bin .shl (.c (u32 1)) (.t 21)), none⟩, ⟨(some 23), .call (.st 62) [(.t 22), (.c (u8 0))], none⟩, ⟨(some 24), .p (.idxA 32 1 (.t 8) (.t 20)), none⟩, ⟨none, .l (.st (.t 24) (.t 23)), none⟩])) <|
  .seq (.keep [0, 1, 2, 8, 9]) <|
  .reg [⟨(some 18), .p (.mv (.t 9)), none⟩, ⟨(some 19), .p (.bin .add (.t 18) (.c (i64 1))), none⟩, ⟨(some 9), .p (.mv (.t 19)), none⟩]
def c45_2 : ACode :=
  .seq (.seq (.reg [⟨(some 33), .p (.mv (.t 11)), none⟩, ⟨(some 34), .p (.bin .lss (.t 33) (.c (i64 32))), none⟩]) <|
  .cond (.t 34) (
    .skip) (
    .exit 4)) <|
  .seq (.keep [0, 1, 2, 8, 10, 11]) <|
  .seq (.blk 5 (
    .drw [(⟨(some 38), .r (.ldN 32 (.t 8)), none⟩, [], false), (⟨(some 39), .p (.mv (.t 11)), none⟩, [], false), (⟨(some 40), .p (.idxA 32 1 (.t 8) (.t 39)), none⟩, [], false), (⟨(some 41), .r (.ld (.t 40)), none⟩, [], false), (⟨(some 42), .call (.st 63) [(.t 38), (.t 41)], none⟩, [], false), (⟨(some 37), .p (.mv (.t 11)), none⟩, [0], false), (⟨(some 43), .p (.idxA 32 1 (.t 10) (.t 37)), none⟩, [], true), (⟨none, .l (.st (.t 43) (.t 42)), none⟩, [], true)])) <|
  .seq (.keep [0, 1, 2, 8, 10, 11]) <|
  .reg [⟨(some 35), .p (.mv (.t 11)), none⟩, ⟨(some 36), .p (.bin .add (.t 35) (.c (i64 1))), none⟩, ⟨(some 11), .p (.mv (.t 36)), none⟩]
def c45_1 : ACode :=
  .seq (.seq (.reg [⟨(some 25), .p (.mv (.t 2)), none⟩, ⟨(some 26), .p (.bin .gtr (.t 25) (.c (i64 0))), none⟩]) <|
  .cond (.t 26) (
    .skip) (
    .exit 2)) <|
  .seq (.keep [0, 1, 2, 8]) <|
  .blk 3 (
    .seq (.seq (.reg [⟨(some 27), .p (.mv (.t 2)), none⟩, ⟨(some 28), .p (.bin .rem (.t 27) (.c (i64 2))), none⟩, ⟨(some 29), .p (.bin .eql (.t 28) (.c (i64 1))), none⟩]) <|
    .cond (.t 29) (
      .reg [⟨(some 30), .r (.ldN 32 (.t 8)), none⟩, ⟨(some 31), .p (.mv (.t 0)), none⟩, ⟨(some 32), .call (.st 63) [(.t 30), (.t 31)], none⟩, ⟨(some 0), .p (.mv (.t 32)), none⟩]) (
      .skip)) <|
    .seq (.keep [0, 1, 2, 8]) <|
    .seq (.reg [⟨(some 10), .n (.alloc (List.replicate 32 (u32 0))), none⟩]) <|
    .seq (.seq (.reg [⟨(some 11), .p (.mv (.c (i64 0))), none⟩]) <|
    .blk 4 (
      .loop (.seq (.keep [0, 1, 2, 8, 10, 11]) c45_2))) <|
    .seq (.keep [0, 1, 2, 8, 10]) <|
    .seq (.reg [⟨(some 44), .r (.ldN 32 (.t 10)), none⟩, ⟨none, .l (.stN 32 (.t 8) (.t 44)), none⟩]) <|
    .reg [⟨(some 45), .p (.mv (.t 2)), none⟩, ⟨(some 46), .p (.bin .quo (.t 45) (.c (i64 2))), none⟩, ⟨(some 2), .p (.mv (.t 46)), none⟩])
def c45 : ACode :=
  .seq (.reg [⟨(some 6), .p (.mv (.c (u32 0))), none⟩, ⟨(some 7), .p (.mv (.c (i64 0))), none⟩]) <|
  .seq (.seq (.reg [⟨(some 12), .p (.mv (.t 2)), none⟩, ⟨(some 13), .p (.bin .lss (.t 12) (.c (i64 0))), none⟩]) <|
  .cond (.t 13) (
    .seq (.reg [⟨(some 6), .p (.mv (.c (u32 0))), none⟩, ⟨(some 7), .p (.mv (.c (i64 1))), none⟩]) <|
    .ret) (
    .skip)) <|
  .seq (.keep [0, 1, 2]) <|
  .seq (.seq (.reg [⟨(some 14), .p (.mv (.t 2)), none⟩, ⟨(some 15), .p (.bin .gtr (.t 14) (.c (i64 2147483647))), none⟩]) <|
  .cond (.t 15) (
    .seq (.reg [⟨(some 6), .p (.mv (.c (u32 0))), none⟩, ⟨(some 7), .p (.mv (.c (i64 2))), none⟩]) <|
    .ret) (
    .skip)) <|
  .seq (.keep [0, 1, 2]) <|
  .seq (.reg [⟨(some 8), .n (.alloc (List.replicate 32 (u32 0))), none⟩]) <|
  .seq (.seq (.reg [⟨(some 9), .p (.mv (.c (i64 0))), none⟩]) <|
  .blk 0 (
    .loop (.seq (.keep [0, 1, 2, 8, 9]) c45_0))) <|
  .seq (.keep [0, 1, 2, 8]) <|
  .seq (.blk 2 (
    .loop (.seq (.keep [0, 1, 2, 8]) c45_1))) <|
  .seq (.keep [0, 1]) <|
  .seq (.reg [⟨(some 47), .p (.mv (.t 0)), none⟩, ⟨(some 48), .p (.mv (.t 1)), none⟩, ⟨(some 49), .p (.bin .xor (.t 47) (.t 48)), none⟩, ⟨(some 6), .p (.mv (.t 49)), none⟩, ⟨(some 7), .p (.mv (.c (i64 0))), none⟩]) <|
  .ret
def r45 : List ARes := [.t 6, .t 7]
/- archivolt/archivoltref02.Crc -/
def c46_0 : ACode :=
  .seq (.seq (.reg [⟨(some 5), .p (.mv (.t 4)), none⟩, ⟨(some 6), .p (.mv (.t 0)), none⟩, ⟨(some 7), .p (.lenS (.t 6)), none⟩, ⟨(some 8), .p (.bin .lss (.t 5) (.t 7)), none⟩]) <|
  .cond (.t 8) (
    .skip) (
    .exit 0)) <|
  .seq (.keep [0, 3, 4]) <|
  .seq (.blk 1 (
    .reg [⟨(some 11), .p (.mv (.t 3)), none⟩, ⟨(some 12), .p (.mv (.t 0)), none⟩, ⟨(some 13), .p (.mv (.t 4)), none⟩, ⟨(some 14), .p (.idxS 1 (.t 12) (.t 13)), none⟩, ⟨(some 15), .r (.ld (.t 14)), none⟩, ⟨(some 16), .call (.st 62) [(.t 11), (.t 15)], none⟩, ⟨(some 3), .p (.mv (.t 16)), none⟩])) <|
  .seq (.keep [0, 3, 4]) <|
  .reg [⟨(some 9), .p (.mv (.t 4)), none⟩, ⟨(some 10), .p (.bin .add (.t 9) (.c (i64 1))), none⟩, ⟨(some 4), .p (.mv (.t 10)), none⟩]
def c46 : ACode :=
  .seq (.reg [⟨(some 2), .p (.mv (.c (u32 0))), none⟩]) <|
  .seq (.reg [⟨(some 3), .p (.mv (.c (u32 4294967295))), none⟩]) <|
  .seq (.seq (.reg [⟨(some 4), .p (.mv (.c (i64 0))), none⟩]) <|
  .blk 0 (
    .loop (.seq (.keep [0, 3, 4]) c46_0))) <|
  .seq (.keep [3]) <|
  .seq (.reg [⟨(some 17), .p (.mv (.t 3)), none⟩, ⟨(some 18), .p (.bin .xor (.t 17) (.c (u32 4294967295))), none⟩, ⟨(some 2), .p (.mv (.t 18)), none⟩]) <|
  .ret
def r46 : List ARes := [.t 2]
/- archivolt/archivoltref02.ValidRoll -/
def c47 : ACode :=
  .seq (.reg [⟨(some 1), .n (.box (.t 0)), none⟩, ⟨(some 2), .p (.mv (.c (.bool false))), none⟩]) <|
  .seq (.reg [⟨(some 3), .p (.fieldA 0 (.t 1)), none⟩, ⟨(some 4), .r (.ld (.t 3)), none⟩, ⟨(some 5), .p (.bin .lss (.t 4) (.c (u32 65521))), none⟩, ⟨(some 6), .p (.mv (.t 5)), none⟩, ⟨(some 7), .p (.fieldA 1 (.t 1)), some (6, true)⟩, ⟨(some 8), .r (.ld (.t 7)), some (6, true)⟩, ⟨(some 9), .p (.bin .lss (.t 8) (.c (u32 65521))), some (6, true)⟩, ⟨(some 10), .p (.pick (.t 6) (.t 9) (.c (.bool false))), none⟩, ⟨(some 11), .p (.mv (.t 10)), none⟩, ⟨(some 12), .p (.fieldA 2 (.t 1)), some (11, true)⟩, ⟨(some 13), .r (.ld (.t 12)), some (11, true)⟩, ⟨(some 14), .p (.bin .geq (.t 13) (.c (i64 0))), some (11, true)⟩, ⟨(some 15), .p (.pick (.t 11) (.t 14) (.c (.bool false))), none⟩, ⟨(some 16), .p (.mv (.t 15)), none⟩, ⟨(some 17), .p (.fieldA 2 (.t 1)), some (16, true)⟩, ⟨(some 18), .r (.ld (.t 17)), some (16, true)⟩, ⟨(some 19), .p (.bin .leq (.t 18) (.c (i64 2147483647))), some (16, true)⟩, ⟨(some 20), .p (.pick (.t 16) (.t 19) (.c (.bool false))), none⟩, ⟨(some 2), .p (.mv (.t 20)), none⟩]) <|
  .ret
def r47 : List ARes := [.t 2]
/- archivolt/sums.top -/
def c48 : ACode :=
  .seq (.reg [⟨(some 2), .n (.alloc (List.replicate 16 (u8 0))), none⟩]) <|
  .seq (.seq (.reg [⟨(some 4), .p (.mv (.t 0)), none⟩, ⟨(some 5), .p (.lenS (.t 4)), none⟩]) <|
  .blk 0 (
    .seq (.reg [⟨(some 7), .p (.bin .eql (.t 5) (.c (i64 0))), none⟩, ⟨(some 6), .p (.mv (.t 7)), none⟩]) <|
    .cond (.t 6) (
      .seq (.reg [⟨(some 8), .n (.bsl 1 1 [(u8 0)] [(0, 1, (.c (u8 2)))]), none⟩, ⟨(some 9), .call (.st 39) [(.t 8)], none⟩, ⟨none, .l (.stN 16 (.t 2) (.t 9)), none⟩]) <|
      .ret) (
      .seq (.reg [⟨(some 11), .p (.bin .eql (.t 5) (.c (i64 1))), none⟩, ⟨(some 10), .p (.mv (.t 11)), none⟩]) <|
      .cond (.t 10) (
        .seq (.reg [⟨(some 12), .p (.mv (.t 0)), none⟩, ⟨(some 13), .p (.idxS 1 (.t 12) (.c (i64 0))), none⟩, ⟨(some 14), .r (.ld (.t 13)), none⟩, ⟨(some 15), .call (.st 64) [(.t 14)], none⟩, ⟨(some 16), .call (.st 39) [(.t 15)], none⟩, ⟨none, .l (.stN 16 (.t 2) (.t 16)), none⟩]) <|
        .ret) (
        .skip)))) <|
  .seq (.keep [0, 2]) <|
  .seq (.reg [⟨(some 17), .p (.mv (.t 0)), none⟩, ⟨(some 18), .p (.lenS (.t 17)), none⟩, ⟨(some 19), .call (.st 50) [(.t 18)], none⟩, ⟨(some 3), .p (.mv (.t 19)), none⟩]) <|
  .seq (.drw [(⟨(some 20), .p (.mv (.t 0)), none⟩, [], false), (⟨(some 21), .p (.mv (.t 3)), none⟩, [], false), (⟨(some 22), .p (.slSl 1 (.t 20) none (some (.t 21)) none), none⟩, [], false), (⟨(some 23), .call (.st 48) [(.t 22)], none⟩, [], false), (⟨(some 24), .p (.mv (.t 0)), none⟩, [0], false), (⟨(some 25), .p (.mv (.t 3)), none⟩, [0], false), (⟨(some 26), .p (.slSl 1 (.t 24) (some (.t 25)) none none), none⟩, [0], false), (⟨(some 27), .call (.st 48) [(.t 26)], none⟩, [], true), (⟨(some 28), .call (.st 65) [(.t 23), (.t 27)], none⟩, [], true), (⟨(some 29), .call (.st 39) [(.t 28)], none⟩, [], true), (⟨none, .l (.stN 16 (.t 2) (.t 29)), none⟩, [], true)]) <|
  .ret
def r48 : List ARes := [.cell 2 (some 16)]
/- archivolt/archivoltref02.node -/
def c49 : ACode :=
  .seq (.reg [⟨(some 2), .n (.alloc (List.replicate 16 (u8 0))), none⟩]) <|
  .seq (.seq (.reg [⟨(some 4), .p (.mv (.t 0)), none⟩, ⟨(some 5), .p (.lenS (.t 4)), none⟩, ⟨(some 6), .p (.bin .eql (.t 5) (.c (i64 0))), none⟩]) <|
  .cond (.t 6) (
    .seq (.reg [⟨(some 7), .n (.bsl 1 1 [(u8 0)] [(0, 1, (.c (u8 2)))]), none⟩, ⟨(some 8), .call (.st 54) [(.t 7)], none⟩, ⟨none, .l (.stN 16 (.t 2) (.t 8)), none⟩]) <|
    .ret) (
    .skip)) <|
  .seq (.keep [0, 2]) <|
  .seq (.seq (.reg [⟨(some 9), .p (.mv (.t 0)), none⟩, ⟨(some 10), .p (.lenS (.t 9)), none⟩, ⟨(some 11), .p (.bin .eql (.t 10) (.c (i64 1))), none⟩]) <|
  .cond (.t 11) (
    .seq (.reg [⟨(some 12), .p (.mv (.t 0)), none⟩, ⟨(some 13), .p (.idxS 1 (.t 12) (.c (i64 0))), none⟩, ⟨(some 14), .r (.ld (.t 13)), none⟩, ⟨(some 15), .call (.st 66) [(.t 14)], none⟩, ⟨(some 16), .call (.st 54) [(.t 15)], none⟩, ⟨none, .l (.stN 16 (.t 2) (.t 16)), none⟩]) <|
    .ret) (
    .skip)) <|
  .seq (.keep [0, 2]) <|
  .seq (.reg [⟨(some 17), .p (.mv (.t 0)), none⟩, ⟨(some 18), .p (.lenS (.t 17)), none⟩, ⟨(some 19), .call (.st 67) [(.t 18)], none⟩, ⟨(some 3), .p (.mv (.t 19)), none⟩]) <|
  .seq (.drw [(⟨(some 20), .p (.mv (.t 0)), none⟩, [], false), (⟨(some 21), .p (.mv (.t 3)), none⟩, [], false), (⟨(some 22), .p (.slSl 1 (.t 20) none (some (.t 21)) none), none⟩, [], false), (⟨(some 23), .call (.st 49) [(.t 22)], none⟩, [], false), (⟨(some 24), .p (.mv (.t 0)), none⟩, [0], false), (⟨(some 25), .p (.mv (.t 3)), none⟩, [0], false), (⟨(some 26), .p (.slSl 1 (.t 24) (some (.t 25)) none none), none⟩, [0], false), (⟨(some 27), .call (.st 49) [(.t 26)], none⟩, [], true), (⟨(some 28), .call (.st 68) [(.t 23), (.t 27)], none⟩, [], true), (⟨(some 29), .call (.st 54) [(.t 28)], none⟩, [], true), (⟨none, .l (.stN 16 (.t 2) (.t 29)), none⟩, [], true)]) <|
  .ret
def r49 : List ARes := [.cell 2 (some 16)]
/- archivolt/sums.half -/
def c50_0 : ACode :=
  .seq (.seq (.reg [⟨(some 4), .p (.mv (.t 3)), none⟩, ⟨(some 5), .p (.bin .mul (.c (i64 2)) (.t 4)), none⟩, ⟨(some 6), .p (.mv (.t 0)), none⟩, ⟨(some 7), .p (.bin .lss (.t 5) (.t 6)), none⟩]) <|
  .cond (.t 7) (
    .skip) (
    .exit 0)) <|
  .seq (.keep [0, 3]) <|
  .blk 1 (
    .reg [⟨(some 8), .p (.mv (.t 3)), none⟩, ⟨(some 9), .p (.bin .mul (.t 8) (.c (i64 2))), none⟩, ⟨(some 3), .p (.mv (.t 9)), none⟩])
def c50 : ACode :=
  .seq (.reg [⟨(some 2), .p (.mv (.c (i64 0))), none⟩]) <|
  .seq (.reg [⟨(some 3), .p (.mv (.c (i64 1))), none⟩]) <|
  .seq (.blk 0 (
    .loop (.seq (.keep [0, 3]) c50_0))) <|
  .seq (.keep [3]) <|
  .seq (.reg [⟨(some 10), .p (.mv (.t 3)), none⟩, ⟨(some 2), .p (.mv (.t 10)), none⟩]) <|
  .ret
def r50 : List ARes := [.t 2]
/- archivolt/archivoltref02.way -/
def c51 : ACode :=
  .seq (.reg [⟨(some 4), .p (.mv (.c .nils)), none⟩]) <|
  .seq (.seq (.reg [⟨(some 6), .p (.mv (.t 0)), none⟩, ⟨(some 7), .p (.lenS (.t 6)), none⟩, ⟨(some 8), .p (.bin .eql (.t 7) (.c (i64 1))), none⟩]) <|
  .cond (.t 8) (
    .seq (.reg [⟨(some 4), .p (.mv (.c .nils)), none⟩]) <|
    .ret) (
    .skip)) <|
  .seq (.keep [0, 1]) <|
  .seq (.reg [⟨(some 9), .p (.mv (.t 0)), none⟩, ⟨(some 10), .p (.lenS (.t 9)), none⟩, ⟨(some 11), .call (.st 67) [(.t 10)], none⟩, ⟨(some 5), .p (.mv (.t 11)), none⟩]) <|
  .seq (.seq (.reg [⟨(some 12), .p (.mv (.t 1)), none⟩, ⟨(some 13), .p (.mv (.t 5)), none⟩, ⟨(some 14), .p (.bin .lss (.t 12) (.t 13)), none⟩]) <|
  .cond (.t 14) (
    .seq (.drw [(⟨(some 15), .p (.mv (.t 0)), none⟩, [], false), (⟨(some 16), .p (.mv (.t 5)), none⟩, [], false), (⟨(some 17), .p (.slSl 1 (.t 15) none (some (.t 16)) none), none⟩, [], false), (⟨(some 18), .p (.mv (.t 1)), none⟩, [], false), (⟨(some 19), .call (.st 51) [(.t 17), (.t 18)], none⟩, [], false), (⟨(some 20), .p (.mv (.t 0)), none⟩, [0], false), (⟨(some 21), .p (.mv (.t 5)), none⟩, [0], false), (⟨(some 22), .p (.slSl 1 (.t 20) (some (.t 21)) none none), none⟩, [0], false), (⟨(some 23), .call (.st 49) [(.t 22)], none⟩, [], true), (⟨(some 24), .n (.bsl 1 16 (List.replicate 16 (u8 0)) [(0, 16, (.t 23))]), none⟩, [], true), (⟨(some 25), .l (.app 16 16 (.t 19) (.t 24)), none⟩, [], true), (⟨(some 4), .p (.mv (.t 25)), none⟩, [], true)]) <|
    .ret) (
    .skip)) <|
  .seq (.keep [0, 1, 5]) <|
  .seq (.drw [(⟨(some 26), .p (.mv (.t 0)), none⟩, [], false), (⟨(some 27), .p (.mv (.t 5)), none⟩, [], false), (⟨(some 28), .p (.slSl 1 (.t 26) (some (.t 27)) none none), none⟩, [], false), (⟨(some 29), .p (.mv (.t 1)), none⟩, [], false), (⟨(some 30), .p (.mv (.t 5)), none⟩, [], false), (⟨(some 31), .p (.bin .sub (.t 29) (.t 30)), none⟩, [], false), (⟨(some 32), .call (.st 51) [(.t 28), (.t 31)], none⟩, [], false), (⟨(some 33), .p (.mv (.t 0)), none⟩, [0], false), (⟨(some 34), .p (.mv (.t 5)), none⟩, [0], false), (⟨(some 35), .p (.slSl 1 (.t 33) none (some (.t 34)) none), none⟩, [0], false), (⟨(some 36), .call (.st 49) [(.t 35)], none⟩, [], true), (⟨(some 37), .n (.bsl 1 16 (List.replicate 16 (u8 0)) [(0, 16, (.t 36))]), none⟩, [], true), (⟨(some 38), .l (.app 16 16 (.t 32) (.t 37)), none⟩, [], true), (⟨(some 4), .p (.mv (.t 38)), none⟩, [], true)]) <|
  .ret
def r51 : List ARes := [.t 4]
/- archivolt/sums.hashed -/
def c52_0 : ACode :=
  .seq (.reg [⟨(some 23), .p (.bin .lss (.t 22) (.t 21)), none⟩]) <|
  .seq (.cond (.t 23) (
    .skip) (
    .exit 0)) <|
  .seq (.keep [8, 9, 20, 21, 22]) <|
  .seq (.blk 1 (
    .seq (.reg [⟨(some 24), .p (.idxS 17 (.t 20) (.t 22)), none⟩, ⟨(some 25), .r (.ldN 17 (.t 24)), none⟩, ⟨(some 11), .n (.alloc [(u8 0), (u8 0), (u8 0), (u8 0), (u8 0), (u8 0), (u8 0), (u8 0), (u8 0), (u8 0), (u8 0), (u8 0), (u8 0), (u8 0), (u8 0), (u8 0), (.bool false)]), none⟩, ⟨none, .l (.stN 17 (.t 11) (.t 25)), none⟩]) <|
    .seq (.reg [⟨(some 26), .r (.ld (.t 8)), none⟩, ⟨(some 27), .r (.ld (.t 8)), none⟩, ⟨(some 28), .p (.lenS (.t 27)), none⟩, ⟨(some 29), .p (.bin .sub (.t 28) (.c (i64 1))), none⟩, ⟨(some 30), .p (.idxS 1 (.t 26) (.t 29)), none⟩, ⟨(some 31), .r (.ld (.t 30)), none⟩, ⟨(some 32), .call (.st 39) [(.t 31)], none⟩, ⟨(some 12), .n (.alloc (List.replicate 16 (u8 0))), none⟩, ⟨none, .l (.stN 16 (.t 12) (.t 32)), none⟩]) <|
    .seq (.keep [8, 9, 11, 12, 20, 21, 22]) <|
    .seq (.reg [⟨(some 33), .p (.fieldA 16 (.t 11)), none⟩, ⟨(some 34), .p (.fieldA 0 (.t 33)), none⟩, ⟨(some 35), .r (.ld (.t 34)), none⟩]) <|
    .cond (.t 35) (
      .drw [(⟨(some 37), .r (.ldN 16 (.t 12)), none⟩, [], false), (⟨(some 38), .p (.fieldA 0 (.t 11)), none⟩, [], false), (⟨(some 39), .r (.ldN 16 (.t 38)), none⟩, [], false), (⟨(some 40), .call (.st 65) [(.t 37), (.t 39)], none⟩, [], false), (⟨(some 36), .r (.ld (.t 8)), none⟩, [0], false), (⟨(some 41), .n (.bsl 1 1 [.nils] [(0, 1, (.t 40))]), none⟩, [], false), (⟨(some 42), .l (.app 1 24 (.t 36) (.t 41)), none⟩, [], true), (⟨none, .l (.st (.t 8) (.t 42)), none⟩, [], true)]) (
      .drw [(⟨(some 44), .p (.fieldA 0 (.t 11)), none⟩, [], false), (⟨(some 45), .r (.ldN 16 (.t 44)), none⟩, [], false), (⟨(some 46), .r (.ldN 16 (.t 12)), none⟩, [], false), (⟨(some 47), .call (.st 65) [(.t 45), (.t 46)], none⟩, [], false), (⟨(some 43), .r (.ld (.t 8)), none⟩, [0], false), (⟨(some 48), .n (.bsl 1 1 [.nils] [(0, 1, (.t 47))]), none⟩, [], false), (⟨(some 49), .l (.app 1 24 (.t 43) (.t 48)), none⟩, [], true), (⟨none, .l (.st (.t 8) (.t 49)), none⟩, [], true)]))) <|
  .seq (.keep [8, 9, 20, 21, 22]) <|
  .reg [⟨(some 50), .p (.bin .add (.t 22) (.c (i64 1))), none⟩, ⟨(some 22), .p (.mv (.t 50)), none⟩]
def c52 : ACode :=
  .seq (.reg [⟨(some 8), .n (.alloc [.nils]), none⟩, ⟨(some 9), .n (.alloc [(i64 0)]), none⟩]) <|
  .seq (.reg [⟨(some 13), .p (.mkfn (.func 69) [] [(.t 8), (.t 9)]), none⟩, ⟨none, .dfr (.dyn (.t 13)) [], none⟩]) <|
  .seq (.reg [⟨(some 14), .p (.mv (.t 2)), none⟩, ⟨(some 15), .call (.st 64) [(.t 14)], none⟩, ⟨(some 16), .n (.bsl 1 1 [.nils] [(0, 1, (.t 15))]), none⟩, ⟨none, .l (.st (.t 8) (.t 16)), none⟩]) <|
  .seq (.seq (.reg [⟨(some 17), .p (.mv (.t 0)), none⟩, ⟨(some 18), .p (.mv (.t 1)), none⟩, ⟨(some 19), .p (.mv (.t 3)), none⟩, ⟨(some 20), .call (.st 70) [(.t 17), (.t 18), (.t 19)], none⟩, ⟨(some 21), .p (.lenS (.t 20)), none⟩, ⟨(some 22), .p (.mv (.c (i64 0))), none⟩]) <|
  .seq (.keep [8, 9, 20, 21, 22]) <|
  .blk 0 (
    .loop (.seq (.keep [8, 9, 20, 21, 22]) c52_0))) <|
  .seq (.keep [8, 9]) <|
  .seq (.reg [⟨(some 51), .r (.ld (.t 8)), none⟩, ⟨none, .l (.st (.t 8) (.t 51)), none⟩, ⟨none, .l (.st (.t 9) (.c (i64 0))), none⟩]) <|
  .ret
def r52 : List ARes := [.cell 8 none, .cell 9 none]
/- archivolt/archivoltref02.Inputs -/
def c53_0 : ACode :=
  .seq (.seq (.reg [⟨(some 34), .p (.mv (.t 12)), none⟩, ⟨(some 35), .p (.mv (.t 3)), none⟩, ⟨(some 36), .p (.lenS (.t 35)), none⟩, ⟨(some 37), .p (.bin .lss (.t 34) (.t 36)), none⟩]) <|
  .cond (.t 37) (
    .skip) (
    .exit 0)) <|
  .seq (.keep [3, 10, 11, 12]) <|
  .seq (.blk 1 (
    .seq (.reg [⟨(some 40), .p (.mv (.t 11)), none⟩, ⟨(some 41), .p (.mv (.t 12)), none⟩, ⟨(some 42), .p (.idxS 1 (.t 40) (.t 41)), none⟩, ⟨(some 43), .r (.ld (.t 42)), none⟩, ⟨(some 44), .call (.st 54) [(.t 43)], none⟩, ⟨(some 13), .n (.alloc (List.replicate 16 (u8 0))), none⟩, ⟨none, .l (.stN 16 (.t 13) (.t 44)), none⟩]) <|
    .seq (.keep [3, 10, 11, 12, 13]) <|
    .seq (.reg [⟨(some 45), .p (.mv (.t 10)), none⟩, ⟨(some 46), .p (.mv (.t 12)), none⟩, ⟨(some 47), .p (.idxS 1 (.t 45) (.t 46)), none⟩, ⟨(some 48), .r (.ld (.t 47)), none⟩]) <|
    .cond (.t 48) (
      .drw [(⟨(some 50), .p (.mv (.t 3)), none⟩, [], false), (⟨(some 51), .p (.mv (.t 12)), none⟩, [], false), (⟨(some 52), .p (.idxS 16 (.t 50) (.t 51)), none⟩, [], false), (⟨(some 53), .r (.ldN 16 (.t 52)), none⟩, [], false), (⟨(some 54), .r (.ldN 16 (.t 13)), none⟩, [], false), (⟨(some 55), .call (.st 68) [(.t 53), (.t 54)], none⟩, [], false), (⟨(some 49), .p (.mv (.t 11)), none⟩, [0], false), (⟨(some 56), .n (.bsl 1 1 [.nils] [(0, 1, (.t 55))]), none⟩, [], false), (⟨(some 57), .l (.app 1 24 (.t 49) (.t 56)), none⟩, [], true), (⟨(some 11), .p (.mv (.t 57)), none⟩, [], true)]) (
      .drw [(⟨(some 59), .r (.ldN 16 (.t 13)), none⟩, [], false), (⟨(some 60), .p (.mv (.t 3)), none⟩, [], false), (⟨(some 61), .p (.mv (.t 12)), none⟩, [], false), (⟨(some 62), .p (.idxS 16 (.t 60) (.t 61)), none⟩, [], false), (⟨(some 63), .r (.ldN 16 (.t 62)), none⟩, [], false), (⟨(some 64), .call (.st 68) [(.t 59), (.t 63)], none⟩, [], false), (⟨(some 58), .p (.mv (.t 11)), none⟩, [0], false), (⟨(some 65), .n (.bsl 1 1 [.nils] [(0, 1, (.t 64))]), none⟩, [], false), (⟨(some 66), .l (.app 1 24 (.t 58) (.t 65)), none⟩, [], true), (⟨(some 11), .p (.mv (.t 66)), none⟩, [], true)]))) <|
  .seq (.keep [3, 10, 11, 12]) <|
  .reg [⟨(some 38), .p (.mv (.t 12)), none⟩, ⟨(some 39), .p (.bin .add (.t 38) (.c (i64 1))), none⟩, ⟨(some 12), .p (.mv (.t 39)), none⟩]
def c53 : ACode :=
  .seq (.reg [⟨(some 8), .p (.mv (.c .nils)), none⟩, ⟨(some 9), .p (.mv (.c (i64 0))), none⟩]) <|
  .seq (.seq (.reg [⟨(some 14), .p (.mv (.t 0)), none⟩, ⟨(some 15), .p (.bin .gtr (.t 14) (.c (i64 4096))), none⟩]) <|
  .cond (.t 15) (
    .seq (.reg [⟨(some 8), .p (.mv (.c .nils)), none⟩, ⟨(some 9), .p (.mv (.c (i64 2))), none⟩]) <|
    .ret) (
    .skip)) <|
  .seq (.keep [0, 1, 2, 3]) <|
  .seq (.seq (.reg [⟨(some 16), .p (.mv (.t 1)), none⟩, ⟨(some 17), .p (.bin .lss (.t 16) (.c (i64 0))), none⟩, ⟨(some 18), .p (.mv (.t 17)), none⟩, ⟨(some 19), .p (.mv (.t 1)), some (18, false)⟩, ⟨(some 20), .p (.mv (.t 0)), some (18, false)⟩, ⟨(some 21), .p (.bin .geq (.t 19) (.t 20)), some (18, false)⟩, ⟨(some 22), .p (.pick (.t 18) (.c (.bool true)) (.t 21)), none⟩]) <|
  .seq (.keep [0, 1, 2, 3, 22]) <|
  .cond (.t 22) (
    .seq (.reg [⟨(some 8), .p (.mv (.c .nils)), none⟩, ⟨(some 9), .p (.mv (.c (i64 3))), none⟩]) <|
    .ret) (
    .skip)) <|
  .seq (.keep [0, 1, 2, 3]) <|
  .seq (.reg [⟨(some 23), .p (.mv (.t 0)), none⟩, ⟨(some 24), .p (.mv (.t 1)), none⟩, ⟨(some 25), .call (.st 71) [(.t 23), (.t 24)], none⟩, ⟨(some 10), .p (.mv (.t 25)), none⟩]) <|
  .seq (.seq (.reg [⟨(some 26), .p (.mv (.t 3)), none⟩, ⟨(some 27), .p (.lenS (.t 26)), none⟩, ⟨(some 28), .p (.mv (.t 10)), none⟩, ⟨(some 29), .p (.lenS (.t 28)), none⟩, ⟨(some 30), .p (.bin .neq (.t 27) (.t 29)), none⟩]) <|
  .cond (.t 30) (
    .seq (.reg [⟨(some 8), .p (.mv (.c .nils)), none⟩, ⟨(some 9), .p (.mv (.c (i64 22))), none⟩]) <|
    .ret) (
    .skip)) <|
  .seq (.keep [2, 3, 10]) <|
  .seq (.reg [⟨(some 31), .p (.mv (.t 2)), none⟩, ⟨(some 32), .call (.st 66) [(.t 31)], none⟩, ⟨(some 33), .n (.bsl 1 1 [.nils] [(0, 1, (.t 32))]), none⟩, ⟨(some 11), .p (.mv (.t 33)), none⟩]) <|
  .seq (.seq (.reg [⟨(some 12), .p (.mv (.c (i64 0))), none⟩]) <|
  .blk 0 (
    .loop (.seq (.keep [3, 10, 11, 12]) c53_0))) <|
  .seq (.keep [11]) <|
  .seq (.reg [⟨(some 67), .p (.mv (.t 11)), none⟩, ⟨(some 8), .p (.mv (.t 67)), none⟩, ⟨(some 9), .p (.mv (.c (i64 0))), none⟩]) <|
  .ret
def r53 : List ARes := [.t 8, .t 9]
/- archivolt/archivoltref02.Digest -/
def c54 : ACode :=
  .seq (.reg [⟨(some 2), .n (.alloc (List.replicate 16 (u8 0))), none⟩]) <|
  .seq (.reg [⟨(some 8), .call (.st 73) [], none⟩, ⟨(some 9), .p (.mv (.t 0)), none⟩, ⟨(some 10), .call (.st 72) [(.t 8), (.t 9)], none⟩, ⟨(some 7), .p (.mv (.t 10)), none⟩, ⟨(some 11), .p (.ext (.t 7) 0), none⟩, ⟨(some 12), .p (.ext (.t 7) 1), none⟩, ⟨(some 3), .n (.alloc [(u32 0), (u32 0), (u32 0), (u32 0), (u32 0), (u32 0), (u32 0), (u32 0), .nils]), none⟩, ⟨none, .l (.stN 9 (.t 3) (.t 11)), none⟩, ⟨(some 4), .p (.mv (.t 12)), none⟩]) <|
  .seq (.keep [2, 3]) <|
  .seq (.reg [⟨(some 14), .r (.ldN 9 (.t 3)), none⟩, ⟨(some 15), .call (.st 74) [(.t 14)], none⟩, ⟨(some 13), .p (.mv (.t 15)), none⟩, ⟨(some 16), .p (.ext (.t 13) 0), none⟩, ⟨(some 17), .p (.ext (.t 13) 1), none⟩, ⟨(some 5), .n (.alloc (List.replicate 16 (u8 0))), none⟩, ⟨none, .l (.stN 16 (.t 5) (.t 16)), none⟩, ⟨(some 6), .p (.mv (.t 17)), none⟩]) <|
  .seq (.keep [2, 5]) <|
  .seq (.reg [⟨(some 18), .r (.ldN 16 (.t 5)), none⟩, ⟨none, .l (.stN 16 (.t 2) (.t 18)), none⟩]) <|
  .ret
def r54 : List ARes := [.cell 2 (some 16)]
/- archivolt/sums.register -/
def c55 : ACode :=
  .seq (.reg [⟨(some 1), .n (.box (.t 0)), none⟩, ⟨(some 2), .p (.mv (.c .nilf)), none⟩]) <|
  .seq (.reg [⟨(some 3), .p (.mkfn (.func 75) [] [(.t 1)]), none⟩, ⟨(some 2), .p (.mv (.t 3)), none⟩]) <|
  .ret
def r55 : List ARes := [.t 2]
/- archivolt/sums.blocks -/
def c56 : ACode :=
  .seq (.reg [⟨(some 1), .n (.box (.t 0)), none⟩, ⟨(some 2), .p (.mv (.c .nilf)), none⟩]) <|
  .seq (.reg [⟨(some 3), .p (.mkfn (.func 76) [] [(.t 1)]), none⟩, ⟨(some 2), .p (.mv (.t 3)), none⟩]) <|
  .ret
def r56 : List ARes := [.t 2]
/- archivolt/sums.read[uint32] -/
def c57_0 : ACode :=
  .seq (.reg [⟨(some 9), .p (.bin .lss (.t 8) (.t 7)), none⟩]) <|
  .seq (.cond (.t 9) (
    .skip) (
    .exit 0)) <|
  .seq (.keep [3, 6, 7, 8]) <|
  .seq (.blk 1 (
    .seq (.reg [⟨(some 10), .p (.mv (.t 8)), none⟩, ⟨(some 11), .p (.idxS 1 (.t 6) (.t 8)), none⟩, ⟨(some 12), .r (.ld (.t 11)), none⟩, ⟨(some 4), .p (.mv (.t 10)), none⟩, ⟨(some 5), .p (.mv (.t 12)), none⟩]) <|
    .reg [⟨(some 13), .p (.mv (.t 3)), none⟩, ⟨(some 14), .p (.mv (.t 5)), none⟩, ⟨(some 15), .p (.conv .u32 (.t 14)), none⟩, ⟨(some 16), .p (.mv (.t 4)), none⟩, ⟨(some 17), .p (.bin .mul (.c (i64 8)) (.t 16)), none⟩, ⟨(some 18), .p (.bin .shl (.t 15) (.t 17)), none⟩, ⟨(some 19), .p (.bin .or (.t 13) (.t 18)), none⟩, ⟨(some 3), .p (.mv (.t 19)), none⟩])) <|
  .seq (.keep [3, 6, 7, 8]) <|
  .reg [⟨(some 20), .p (.bin .add (.t 8) (.c (i64 1))), none⟩, ⟨(some 8), .p (.mv (.t 20)), none⟩]
def c57 : ACode :=
  .seq (.reg [⟨(some 2), .p (.mv (.c (u32 0))), none⟩]) <|
  .seq (.reg [⟨(some 3), .p (.mv (.c (u32 0))), none⟩]) <|
  .seq (.seq (.reg [⟨(some 6), .p (.mv (.t 0)), none⟩, ⟨(some 7), .p (.lenS (.t 6)), none⟩, ⟨(some 8), .p (.mv (.c (i64 0))), none⟩]) <|
  .blk 0 (
    .loop (.seq (.keep [3, 6, 7, 8]) c57_0))) <|
  .seq (.keep [3]) <|
  .seq (.reg [⟨(some 21), .p (.mv (.t 3)), none⟩, ⟨(some 2), .p (.mv (.t 21)), none⟩]) <|
  .ret
def r57 : List ARes := [.t 2]
/- archivolt/sums.write[uint32] -/
def c58_0 : ACode :=
  .seq (.reg [⟨(some 10), .p (.bin .lss (.t 9) (.t 8)), none⟩]) <|
  .seq (.cond (.t 10) (
    .skip) (
    .exit 0)) <|
  .seq (.keep [0, 1, 8, 9]) <|
  .seq (.blk 1 (
    .seq (.reg [⟨(some 11), .p (.mv (.t 9)), none⟩, ⟨(some 7), .p (.mv (.t 11)), none⟩]) <|
    .reg [⟨(some 12), .p (.mv (.t 0)), none⟩, ⟨(some 13), .p (.mv (.t 1)), none⟩, ⟨(some 14), .p (.mv (.t 7)), none⟩, ⟨(some 15), .p (.bin .mul (.c (i64 8)) (.t 14)), none⟩, ⟨(some 16), .p (.bin .shr (.t 13) (.t 15)), none⟩, ⟨(some 17), .p (.conv .u8 (.t 16)), none⟩, ⟨(some 18), .n (.bsl 1 1 [(u8 0)] [(0, 1, (.t 17))]), none⟩, ⟨(some 19), .l (.app 1 1 (.t 12) (.t 18)), none⟩, ⟨(some 0), .p (.mv (.t 19)), none⟩])) <|
  .seq (.keep [0, 1, 8, 9]) <|
  .reg [⟨(some 20), .p (.bin .add (.t 9) (.c (i64 1))), none⟩, ⟨(some 9), .p (.mv (.t 20)), none⟩]
def c58 : ACode :=
  .seq (.reg [⟨(some 6), .p (.mv (.c .nils)), none⟩]) <|
  .seq (.seq (.reg [⟨(some 8), .p (.mv (.t 2)), none⟩, ⟨(some 9), .p (.mv (.c (i64 0))), none⟩]) <|
  .blk 0 (
    .loop (.seq (.keep [0, 1, 8, 9]) c58_0))) <|
  .seq (.keep [0]) <|
  .seq (.reg [⟨(some 21), .p (.mv (.t 0)), none⟩, ⟨(some 6), .p (.mv (.t 21)), none⟩]) <|
  .ret
def r58 : List ARes := [.t 6]
/- math/bits.RotateLeft32 -/
def c59 : ACode :=
  .seq (.reg [⟨(some 4), .p (.mv (.c (u32 0))), none⟩]) <|
  .seq (.reg [⟨(some 6), .p (.mv (.t 1)), none⟩, ⟨(some 7), .p (.conv .u64 (.t 6)), none⟩, ⟨(some 8), .p (.bin .and (.t 7) (.c (u64 31))), none⟩, ⟨(some 5), .p (.mv (.t 8)), none⟩]) <|
  .seq (.reg [⟨(some 9), .p (.mv (.t 0)), none⟩, ⟨(some 10), .p (.mv (.t 5)), none⟩, ⟨(some 11), .p (.bin .shl (.t 9) (.t 10)), none⟩, ⟨(some 12), .p (.mv (.t 0)), none⟩, ⟨(some 13), .p (.mv (.t 5)), none⟩, ⟨(some 14), .p (.bin .sub (.c (u64 32)) (.t 13)), none⟩, ⟨(some 15), .p (.bin .shr (.t 12) (.t 14)), none⟩, ⟨(some 16), .p (.bin .or (.t 11) (.t 15)), none⟩, ⟨(some 4), .p (.mv (.t 16)), none⟩]) <|
  .ret
def r59 : List ARes := [.t 4]
/- (*archivolt/sums.matrix).of -/
def c60_0 : ACode :=
  .seq (.reg [⟨(some 8), .p (.bin .lss (.t 7) (.c (i64 32))), none⟩]) <|
  .seq (.cond (.t 8) (
    .skip) (
    .exit 0)) <|
  .seq (.keep [0, 1, 5, 7]) <|
  .seq (.blk 1 (
    .seq (.reg [⟨(some 9), .p (.mv (.t 7)), none⟩, ⟨(some 6), .p (.mv (.t 9)), none⟩]) <|
    .seq (.reg [⟨(some 10), .p (.mv (.t 1)), none⟩, ⟨(some 11), .p (.mv (.t 6)), none⟩, ⟨(some 12), .p (.bin .shr (.t 10) (.t 11)), none⟩, ⟨(some 13), .p (.bin .and (.t 12) (.c (u32 1))), none⟩, ⟨(some 14), .p (.bin .eql (.t 13) (.c (u32 1))), none⟩]) <|
    .cond (.t 14) (
      .reg [⟨(some 15), .p (.mv (.t 5)), none⟩, ⟨(some 16), .p (.mv (.t 0)), none⟩, ⟨(some 17), .p (.mv (.t 6)), none⟩, ⟨(some 18), .p (.nilck (.t 16)), none⟩, ⟨(some 19), .p (.idxA 32 1 (.t 18) (.t 17)), none⟩, ⟨(some 20), .r (.ld (.t 19)), none⟩, ⟨(some 21), .p (.bin .xor (.t 15) (.t 20)), none⟩, ⟨(some 5), .p (.mv (.t 21)), none⟩]) (
      .skip))) <|
  .seq (.keep [0, 1, 5, 7]) <|
  .reg [⟨(some 22), .p (.bin .add (.t 7) (.c (i64 1))), none⟩, ⟨(some 7), .p (.mv (.t 22)), none⟩]
def c60 : ACode :=
  .seq (.reg [⟨(some 4), .p (.mv (.c (u32 0))), none⟩]) <|
  .seq (.reg [⟨(some 5), .p (.mv (.c (u32 0))), none⟩]) <|
  .seq (.seq (.reg [⟨(some 7), .p (.mv (.c (i64 0))), none⟩]) <|
  .blk 0 (
    .loop (.seq (.keep [0, 1, 5, 7]) c60_0))) <|
  .seq (.keep [5]) <|
  .seq (.reg [⟨(some 23), .p (.mv (.t 5)), none⟩, ⟨(some 4), .p (.mv (.t 23)), none⟩]) <|
  .ret
def r60 : List ARes := [.t 4]
/- (*archivolt/sums.matrix).square -/
def c61_0 : ACode :=
  .seq (.reg [⟨(some 6), .p (.bin .lss (.t 5) (.c (i64 32))), none⟩]) <|
  .seq (.cond (.t 6) (
    .skip) (
    .exit 0)) <|
  .seq (.keep [0, 2, 3, 5]) <|
  .seq (.blk 1 (
    .seq (.reg [⟨(some 7), .p (.mv (.t 5)), none⟩, ⟨(some 4), .p (.mv (.t 7)), none⟩]) <|
    .reg [⟨(some 8), .p (.mv (.t 4)), none⟩, ⟨(some 9), .p (.mv (.t 0)), none⟩, ⟨(some 10), .p (.mv (.t 0)), none⟩, ⟨(some 11), .p (.mv (.t 4)), none⟩, ⟨(some 12), .p (.nilck (.t 10)), none⟩, ⟨(some 13), .p (.idxA 32 1 (.t 12) (.t 11)), none⟩, ⟨(some 14), .r (.ld (.t 13)), none⟩, ⟨(some 15), .call (.st 60) [(.t 9), (.t 14)], none⟩, ⟨(some 16), .p (.idxA 32 1 (.t 3) (.t 8)), none⟩, ⟨none, .l (.st (.t 16) (.t 15)), none⟩])) <|
  .seq (.keep [0, 2, 3, 5]) <|
  .reg [⟨(some 17), .p (.bin .add (.t 5) (.c (i64 1))), none⟩, ⟨(some 5), .p (.mv (.t 17)), none⟩]
def c61 : ACode :=
  .seq (.reg [⟨(some 2), .n (.alloc (List.replicate 32 (u32 0))), none⟩]) <|
  .seq (.reg [⟨(some 3), .n (.alloc (List.replicate 32 (u32 0))), none⟩]) <|
  .seq (.seq (.reg [⟨(some 5), .p (.mv (.c (i64 0))), none⟩]) <|
  .blk 0 (
    .loop (.seq (.keep [0, 2, 3, 5]) c61_0))) <|
  .seq (.keep [2, 3]) <|
  .seq (.reg [⟨(some 18), .r (.ldN 32 (.t 3)), none⟩, ⟨none, .l (.stN 32 (.t 2) (.t 18)), none⟩]) <|
  .ret
def r61 : List ARes := [.cell 2 (some 32)]
/- archivolt/archivoltref02.Step -/
def c62_0 : ACode :=
  .seq (.seq (.reg [⟨(some 11), .p (.mv (.t 5)), none⟩, ⟨(some 12), .p (.bin .lss (.t 11) (.c (i64 8))), none⟩]) <|
  .cond (.t 12) (
    .skip) (
    .exit 0)) <|
  .seq (.keep [0, 5]) <|
  .seq (.blk 1 (
    .seq (.reg [⟨(some 15), .p (.mv (.t 0)), none⟩, ⟨(some 16), .p (.bin .rem (.t 15) (.c (u32 2))), none⟩, ⟨(some 17), .p (.bin .eql (.t 16) (.c (u32 1))), none⟩, ⟨(some 6), .p (.mv (.t 17)), none⟩]) <|
    .seq (.reg [⟨(some 18), .p (.mv (.t 0)), none⟩, ⟨(some 19), .p (.bin .quo (.t 18) (.c (u32 2))), none⟩, ⟨(some 0), .p (.mv (.t 19)), none⟩]) <|
    .seq (.reg [⟨(some 20), .p (.mv (.t 6)), none⟩]) <|
    .cond (.t 20) (
      .reg [⟨(some 21), .p (.mv (.t 0)), none⟩, ⟨(some 22), .p (.bin .xor (.t 21) (.c (u32 3252574743))), none⟩, ⟨(some 0), .p (.mv (.t 22)), none⟩]) (
      .skip))) <|
  .seq (.keep [0, 5]) <|
  .reg [⟨(some 13), .p (.mv (.t 5)), none⟩, ⟨(some 14), .p (.bin .add (.t 13) (.c (i64 1))), none⟩, ⟨(some 5), .p (.mv (.t 14)), none⟩]
def c62 : ACode :=
  .seq (.reg [⟨(some 4), .p (.mv (.c (u32 0))), none⟩]) <|
  .seq (.reg [⟨(some 7), .p (.mv (.t 0)), none⟩, ⟨(some 8), .p (.mv (.t 1)), none⟩, ⟨(some 9), .p (.conv .u32 (.t 8)), none⟩, ⟨(some 10), .p (.bin .xor (.t 7) (.t 9)), none⟩, ⟨(some 0), .p (.mv (.t 10)), none⟩]) <|
  .seq (.seq (.reg [⟨(some 5), .p (.mv (.c (i64 0))), none⟩]) <|
  .blk 0 (
    .loop (.seq (.keep [0, 5]) c62_0))) <|
  .seq (.keep [0]) <|
  .seq (.reg [⟨(some 23), .p (.mv (.t 0)), none⟩, ⟨(some 4), .p (.mv (.t 23)), none⟩]) <|
  .ret
def r62 : List ARes := [.t 4]
/- archivolt/archivoltref02.applied -/
def c63_0 : ACode :=
  .seq (.seq (.reg [⟨(some 7), .p (.mv (.t 6)), none⟩, ⟨(some 8), .p (.bin .lss (.t 7) (.c (i64 32))), none⟩]) <|
  .cond (.t 8) (
    .skip) (
    .exit 0)) <|
  .seq (.keep [1, 2, 5, 6]) <|
  .seq (.blk 1 (
    .seq (.reg [⟨(some 11), .p (.mv (.t 1)), none⟩, ⟨(some 12), .p (.mv (.t 6)), none⟩, ⟨(some 13), .p (.bin .shr (.t 11) (.t 12)), none⟩, ⟨(some 14), .p (.bin .rem (.t 13) (.c (u32 2))), none⟩, ⟨(some 15), .p (.bin .eql (.t 14) (.c (u32 1))), none⟩]) <|
    .cond (.t 15) (
      .reg [⟨(some 16), .p (.mv (.t 5)), none⟩, ⟨(some 17), .p (.mv (.t 6)), none⟩, ⟨(some 18), .p (.idxA 32 1 (.t 2) (.t 17)), none⟩, ⟨(some 19), .r (.ld (.t 18)), none⟩, ⟨(some 20), .p (.bin .xor (.t 16) (.t 19)), none⟩, ⟨(some 5), .p (.mv (.t 20)), none⟩]) (
      .skip))) <|
  .seq (.keep [1, 2, 5, 6]) <|
  .reg [⟨(some 9), .p (.mv (.t 6)), none⟩, ⟨(some 10), .p (.bin .add (.t 9) (.c (i64 1))), none⟩, ⟨(some 6), .p (.mv (.t 10)), none⟩]
def c63 : ACode :=
  .seq (.reg [⟨(some 2), .n (.box (.t 0)), none⟩, ⟨(some 4), .p (.mv (.c (u32 0))), none⟩]) <|
  .seq (.reg [⟨(some 5), .p (.mv (.c (u32 0))), none⟩]) <|
  .seq (.seq (.reg [⟨(some 6), .p (.mv (.c (i64 0))), none⟩]) <|
  .blk 0 (
    .loop (.seq (.keep [1, 2, 5, 6]) c63_0))) <|
  .seq (.keep [5]) <|
  .seq (.reg [⟨(some 21), .p (.mv (.t 5)), none⟩, ⟨(some 4), .p (.mv (.t 21)), none⟩]) <|
  .ret
def r63 : List ARes := [.t 4]
/- archivolt/sums.leafBytes -/
def c64 : ACode :=
  .seq (.reg [⟨(some 2), .p (.mv (.c .nils)), none⟩]) <|
  .seq (.reg [⟨(some 3), .n (.bsl 1 1 [(u8 0)] [(0, 1, (.c (u8 0)))]), none⟩, ⟨(some 4), .p (.mv (.t 0)), none⟩, ⟨(some 5), .l (.app 1 1 (.t 3) (.t 4)), none⟩, ⟨(some 2), .p (.mv (.t 5)), none⟩]) <|
  .ret
def r64 : List ARes := [.t 2]
/- archivolt/sums.pairBytes -/
def c65 : ACode :=
  .seq (.reg [⟨(some 2), .n (.box (.t 0)), none⟩, ⟨(some 3), .n (.box (.t 1)), none⟩, ⟨(some 4), .p (.mv (.c .nils)), none⟩]) <|
  .seq (.drw [(⟨(some 5), .n (.bsl 1 1 [(u8 0)] [(0, 1, (.c (u8 1)))]), none⟩, [], false), (⟨(some 6), .p (.slArr 16 1 (.t 2) none none none), none⟩, [], false), (⟨(some 7), .l (.app 1 1 (.t 5) (.t 6)), none⟩, [], false), (⟨(some 8), .p (.slArr 16 1 (.t 3) none none none), none⟩, [0], false), (⟨(some 9), .l (.app 1 1 (.t 7) (.t 8)), none⟩, [], true), (⟨(some 4), .p (.mv (.t 9)), none⟩, [], true)]) <|
  .ret
def r65 : List ARes := [.t 4]
/- archivolt/archivoltref02.single -/
def c66 : ACode :=
  .seq (.reg [⟨(some 2), .p (.mv (.c .nils)), none⟩]) <|
  .seq (.reg [⟨(some 3), .n (.bsl 1 1 [(u8 0)] [(0, 1, (.c (u8 0)))]), none⟩, ⟨(some 4), .p (.mv (.t 0)), none⟩, ⟨(some 5), .l (.app 1 1 (.t 3) (.t 4)), none⟩, ⟨(some 2), .p (.mv (.t 5)), none⟩]) <|
  .ret
def r66 : List ARes := [.t 2]
/- archivolt/archivoltref02.half -/
def c67_0 : ACode :=
  .seq (.seq (.reg [⟨(some 4), .p (.mv (.t 3)), none⟩, ⟨(some 5), .p (.bin .mul (.c (i64 2)) (.t 4)), none⟩, ⟨(some 6), .p (.mv (.t 0)), none⟩, ⟨(some 7), .p (.bin .lss (.t 5) (.t 6)), none⟩]) <|
  .cond (.t 7) (
    .skip) (
    .exit 0)) <|
  .seq (.keep [0, 3]) <|
  .blk 1 (
    .reg [⟨(some 8), .p (.mv (.t 3)), none⟩, ⟨(some 9), .p (.bin .mul (.c (i64 2)) (.t 8)), none⟩, ⟨(some 3), .p (.mv (.t 9)), none⟩])
def c67 : ACode :=
  .seq (.reg [⟨(some 2), .p (.mv (.c (i64 0))), none⟩]) <|
  .seq (.reg [⟨(some 3), .p (.mv (.c (i64 1))), none⟩]) <|
  .seq (.blk 0 (
    .loop (.seq (.keep [0, 3]) c67_0))) <|
  .seq (.keep [3]) <|
  .seq (.reg [⟨(some 10), .p (.mv (.t 3)), none⟩, ⟨(some 2), .p (.mv (.t 10)), none⟩]) <|
  .ret
def r67 : List ARes := [.t 2]
/- archivolt/archivoltref02.double -/
def c68 : ACode :=
  .seq (.reg [⟨(some 2), .n (.box (.t 0)), none⟩, ⟨(some 3), .n (.box (.t 1)), none⟩, ⟨(some 4), .p (.mv (.c .nils)), none⟩]) <|
  .seq (.reg [⟨(some 6), .n (.bsl 1 1 [(u8 0)] [(0, 1, (.c (u8 1)))]), none⟩, ⟨(some 7), .p (.slArr 16 1 (.t 2) none none none), none⟩, ⟨(some 8), .l (.app 1 1 (.t 6) (.t 7)), none⟩, ⟨(some 5), .p (.mv (.t 8)), none⟩]) <|
  .seq (.reg [⟨(some 9), .p (.mv (.t 5)), none⟩, ⟨(some 10), .p (.slArr 16 1 (.t 3) none none none), none⟩, ⟨(some 11), .l (.app 1 1 (.t 9) (.t 10)), none⟩, ⟨(some 4), .p (.mv (.t 11)), none⟩]) <|
  .ret
def r68 : List ARes := [.t 4]
/- archivolt/sums.hashed$1 -/
def c69 : ACode :=
  .seq (.reg [⟨(some 5), .rcv, none⟩, ⟨(some 6), .p (.asrt 96 (.agg [(i64 0)]) true (.t 5)), none⟩, ⟨(some 4), .p (.mv (.t 6)), none⟩, ⟨(some 7), .p (.ext (.t 4) 0), none⟩, ⟨(some 8), .p (.ext (.t 4) 1), none⟩, ⟨(some 2), .n (.alloc [(i64 0)]), none⟩, ⟨none, .l (.stN 1 (.t 2) (.t 7)), none⟩, ⟨(some 3), .p (.mv (.t 8)), none⟩]) <|
  .seq (.keep [0, 1, 2, 3]) <|
  .seq (.reg [⟨(some 9), .p (.mv (.t 3)), none⟩]) <|
  .cond (.t 9) (
    .drw [(⟨none, .l (.st (.t 0) (.c .nils)), none⟩, [], false), (⟨(some 10), .p (.fieldA 0 (.t 2)), none⟩, [0], false), (⟨(some 11), .r (.ld (.t 10)), none⟩, [0], false), (⟨none, .l (.st (.t 1) (.t 11)), none⟩, [], true)]) (
    .skip)
def r69 : List ARes := []
/- archivolt/sums.places -/
def c70_0 : ACode :=
  .seq (.seq (.reg [⟨(some 25), .p (.mv (.t 0)), none⟩, ⟨(some 26), .p (.bin .gtr (.t 25) (.c (i64 1))), none⟩]) <|
  .cond (.t 26) (
    .skip) (
    .exit 0)) <|
  .seq (.keep [0, 1, 2, 7]) <|
  .blk 1 (
    .seq (.reg [⟨(some 27), .p (.mv (.t 0)), none⟩, ⟨(some 28), .call (.st 50) [(.t 27)], none⟩, ⟨(some 8), .p (.mv (.t 28)), none⟩]) <|
    .seq (.reg [⟨(some 29), .p (.mv (.t 1)), none⟩, ⟨(some 30), .p (.mv (.t 8)), none⟩, ⟨(some 31), .p (.bin .lss (.t 29) (.t 30)), none⟩]) <|
    .cond (.t 31) (
      .seq (.reg [⟨(some 32), .p (.mv (.t 7)), none⟩, ⟨(some 33), .p (.build [(.bool false)] [(0, 1, (.c (.bool true)))]), none⟩, ⟨(some 34), .n (.bsl 1 1 [(.bool false)] [(0, 1, (.t 33))]), none⟩, ⟨(some 35), .l (.app 1 1 (.t 32) (.t 34)), none⟩, ⟨(some 7), .p (.mv (.t 35)), none⟩]) <|
      .reg [⟨(some 36), .p (.mv (.t 8)), none⟩, ⟨(some 0), .p (.mv (.t 36)), none⟩]) (
      .seq (.reg [⟨(some 37), .p (.mv (.t 7)), none⟩, ⟨(some 38), .p (.build [(.bool false)] []), none⟩, ⟨(some 39), .n (.bsl 1 1 [(.bool false)] [(0, 1, (.t 38))]), none⟩, ⟨(some 40), .l (.app 1 1 (.t 37) (.t 39)), none⟩, ⟨(some 7), .p (.mv (.t 40)), none⟩]) <|
      .seq (.reg [⟨(some 41), .p (.mv (.t 0)), none⟩, ⟨(some 42), .p (.mv (.t 8)), none⟩, ⟨(some 43), .p (.bin .sub (.t 41) (.t 42)), none⟩, ⟨(some 0), .p (.mv (.t 43)), none⟩]) <|
      .reg [⟨(some 44), .p (.mv (.t 1)), none⟩, ⟨(some 45), .p (.mv (.t 8)), none⟩, ⟨(some 46), .p (.bin .sub (.t 44) (.t 45)), none⟩, ⟨(some 1), .p (.mv (.t 46)), none⟩]))
def c70_1 : ACode :=
  .seq (.reg [⟨(some 57), .p (.bin .lss (.t 56) (.t 55)), none⟩]) <|
  .seq (.cond (.t 57) (
    .skip) (
    .exit 2)) <|
  .seq (.keep [7, 9, 54, 55, 56]) <|
  .seq (.blk 3 (
    .seq (.reg [⟨(some 58), .p (.mv (.t 56)), none⟩, ⟨(some 59), .p (.idxS 16 (.t 54) (.t 56)), none⟩, ⟨(some 60), .r (.ldN 16 (.t 59)), none⟩, ⟨(some 11), .n (.alloc (List.replicate 16 (u8 0))), none⟩, ⟨(some 10), .p (.mv (.t 58)), none⟩, ⟨none, .l (.stN 16 (.t 11) (.t 60)), none⟩]) <|
    .seq (.keep [7, 9, 10, 11, 54, 55, 56]) <|
    .drw [(⟨(some 61), .p (.mv (.t 9)), none⟩, [], false), (⟨(some 62), .r (.ldN 16 (.t 11)), none⟩, [], false), (⟨(some 63), .p (.mv (.t 7)), none⟩, [], false), (⟨(some 64), .p (.mv (.t 7)), none⟩, [], false), (⟨(some 65), .p (.lenS (.t 64)), none⟩, [], false), (⟨(some 66), .p (.bin .sub (.t 65) (.c (i64 1))), none⟩, [], false), (⟨(some 67), .p (.mv (.t 10)), none⟩, [], false), (⟨(some 68), .p (.bin .sub (.t 66) (.t 67)), none⟩, [], false), (⟨(some 69), .p (.idxS 1 (.t 63) (.t 68)), none⟩, [], false), (⟨(some 70), .r (.ldN 1 (.t 69)), none⟩, [], false), (⟨(some 71), .p (.build [(u8 0), (u8 0), (u8 0), (u8 0), (u8 0), (u8 0), (u8 0), (u8 0), (u8 0), (u8 0), (u8 0), (u8 0), (u8 0), (u8 0), (u8 0), (u8 0), (.bool false)] [(0, 16, (.t 62)), (16, 1, (.t 70))]), none⟩, [], false), (⟨(some 72), .n (.bsl 1 17 [(u8 0), (u8 0), (u8 0), (u8 0), (u8 0), (u8 0), (u8 0), (u8 0), (u8 0), (u8 0), (u8 0), (u8 0), (u8 0), (u8 0), (u8 0), (u8 0), (.bool false)] [(0, 17, (.t 71))]), none⟩, [], false), (⟨(some 73), .l (.app 17 17 (.t 61) (.t 72)), none⟩, [], true), (⟨(some 9), .p (.mv (.t 73)), none⟩, [], true)])) <|
  .seq (.keep [7, 9, 54, 55, 56]) <|
  .reg [⟨(some 74), .p (.bin .add (.t 56) (.c (i64 1))), none⟩, ⟨(some 56), .p (.mv (.t 74)), none⟩]
def c70 : ACode :=
  .seq (.reg [⟨(some 6), .p (.mv (.c .nils)), none⟩]) <|
  .seq (.seq (.reg [⟨(some 12), .p (.mv (.t 0)), none⟩, ⟨(some 13), .p (.bin .gtr (.t 12) (.c (i64 4096))), none⟩]) <|
  .cond (.t 13) (
    .reg [⟨(some 14), .p (.build [(i64 0)] [(0, 1, (.c (i64 2)))]), none⟩, ⟨(some 15), .p (.mkif 96 (.t 14)), none⟩, ⟨none, .pan (.t 15), none⟩]) (
    .skip)) <|
  .seq (.keep [0, 1, 2]) <|
  .seq (.seq (.reg [⟨(some 16), .p (.mv (.t 1)), none⟩, ⟨(some 17), .p (.bin .lss (.t 16) (.c (i64 0))), none⟩, ⟨(some 18), .p (.mv (.t 17)), none⟩, ⟨(some 19), .p (.mv (.t 1)), some (18, false)⟩, ⟨(some 20), .p (.mv (.t 0)), some (18, false)⟩, ⟨(some 21), .p (.bin .geq (.t 19) (.t 20)), some (18, false)⟩, ⟨(some 22), .p (.pick (.t 18) (.c (.bool true)) (.t 21)), none⟩]) <|
  .seq (.keep [0, 1, 2, 22]) <|
  .cond (.t 22) (
    .reg [⟨(some 23), .p (.build [(i64 0)] [(0, 1, (.c (i64 3)))]), none⟩, ⟨(some 24), .p (.mkif 96 (.t 23)), none⟩, ⟨none, .pan (.t 24), none⟩]) (
    .skip)) <|
  .seq (.keep [0, 1, 2]) <|
  .seq (.reg [⟨(some 7), .p (.mv (.c .nils)), none⟩]) <|
  .seq (.blk 0 (
    .loop (.seq (.keep [0, 1, 2, 7]) c70_0))) <|
  .seq (.keep [2, 7]) <|
  .seq (.seq (.reg [⟨(some 47), .p (.mv (.t 2)), none⟩, ⟨(some 48), .p (.lenS (.t 47)), none⟩, ⟨(some 49), .p (.mv (.t 7)), none⟩, ⟨(some 50), .p (.lenS (.t 49)), none⟩, ⟨(some 51), .p (.bin .neq (.t 48) (.t 50)), none⟩]) <|
  .cond (.t 51) (
    .reg [⟨(some 52), .p (.build [(i64 0)] [(0, 1, (.c (i64 22)))]), none⟩, ⟨(some 53), .p (.mkif 96 (.t 52)), none⟩, ⟨none, .pan (.t 53), none⟩]) (
    .skip)) <|
  .seq (.keep [2, 7]) <|
  .seq (.reg [⟨(some 9), .p (.mv (.c .nils)), none⟩]) <|
  .seq (.seq (.reg [⟨(some 54), .p (.mv (.t 2)), none⟩, ⟨(some 55), .p (.lenS (.t 54)), none⟩, ⟨(some 56), .p (.mv (.c (i64 0))), none⟩]) <|
  .blk 2 (
    .loop (.seq (.keep [7, 9, 54, 55, 56]) c70_1))) <|
  .seq (.keep [9]) <|
  .seq (.reg [⟨(some 75), .p (.mv (.t 9)), none⟩, ⟨(some 6), .p (.mv (.t 75)), none⟩]) <|
  .ret
def r70 : List ARes := [.t 6]
/- archivolt/archivoltref02.sides -/
def c71 : ACode :=
  .seq (.reg [⟨(some 4), .p (.mv (.c .nils)), none⟩]) <|
  .seq (.seq (.reg [⟨(some 6), .p (.mv (.t 0)), none⟩, ⟨(some 7), .p (.bin .eql (.t 6) (.c (i64 1))), none⟩]) <|
  .cond (.t 7) (
    .seq (.reg [⟨(some 4), .p (.mv (.c .nils)), none⟩]) <|
    .ret) (
    .skip)) <|
  .seq (.keep [0, 1]) <|
  .seq (.reg [⟨(some 8), .p (.mv (.t 0)), none⟩, ⟨(some 9), .call (.st 67) [(.t 8)], none⟩, ⟨(some 5), .p (.mv (.t 9)), none⟩]) <|
  .seq (.seq (.reg [⟨(some 10), .p (.mv (.t 1)), none⟩, ⟨(some 11), .p (.mv (.t 5)), none⟩, ⟨(some 12), .p (.bin .lss (.t 10) (.t 11)), none⟩]) <|
  .cond (.t 12) (
    .seq (.reg [⟨(some 13), .p (.mv (.t 5)), none⟩, ⟨(some 14), .p (.mv (.t 1)), none⟩, ⟨(some 15), .call (.st 71) [(.t 13), (.t 14)], none⟩, ⟨(some 16), .n (.bsl 1 1 [(.bool false)] [(0, 1, (.c (.bool false)))]), none⟩, ⟨(some 17), .l (.app 1 1 (.t 15) (.t 16)), none⟩, ⟨(some 4), .p (.mv (.t 17)), none⟩]) <|
    .ret) (
    .skip)) <|
  .seq (.keep [0, 1, 5]) <|
  .seq (.reg [⟨(some 18), .p (.mv (.t 0)), none⟩, ⟨(some 19), .p (.mv (.t 5)), none⟩, ⟨(some 20), .p (.bin .sub (.t 18) (.t 19)), none⟩, ⟨(some 21), .p (.mv (.t 1)), none⟩, ⟨(some 22), .p (.mv (.t 5)), none⟩, ⟨(some 23), .p (.bin .sub (.t 21) (.t 22)), none⟩, ⟨(some 24), .call (.st 71) [(.t 20), (.t 23)], none⟩, ⟨(some 25), .n (.bsl 1 1 [(.bool false)] [(0, 1, (.c (.bool true)))]), none⟩, ⟨(some 26), .l (.app 1 1 (.t 24) (.t 25)), none⟩, ⟨(some 4), .p (.mv (.t 26)), none⟩]) <|
  .ret
def r71 : List ARes := [.t 4]
/- archivolt/archivoltref02.Absorb -/
def c72_0 : ACode :=
  .seq (.seq (.reg [⟨(some 22), .p (.mv (.t 6)), none⟩, ⟨(some 23), .p (.lenS (.t 22)), none⟩, ⟨(some 24), .p (.bin .geq (.t 23) (.c (i64 16))), none⟩]) <|
  .cond (.t 24) (
    .skip) (
    .exit 0)) <|
  .seq (.keep [4, 6, 7]) <|
  .blk 1 (
    .seq (.drw [(⟨(some 25), .p (.fieldA 0 (.t 7)), none⟩, [], false), (⟨(some 26), .r (.ldN 8 (.t 25)), none⟩, [], false), (⟨(some 27), .p (.mv (.t 6)), none⟩, [], false), (⟨(some 28), .p (.slSl 1 (.t 27) none (some (.c (i64 16))) none), none⟩, [], false), (⟨(some 29), .call (.st 78) [(.t 26), (.t 28)], none⟩, [], true), (⟨(some 30), .p (.fieldA 0 (.t 7)), none⟩, [], true), (⟨none, .l (.stN 8 (.t 30) (.t 29)), none⟩, [], true)]) <|
    .seq (.keep [4, 6, 7]) <|
    .reg [⟨(some 31), .p (.mv (.t 6)), none⟩, ⟨(some 32), .p (.slSl 1 (.t 31) (some (.c (i64 16))) none none), none⟩, ⟨(some 6), .p (.mv (.t 32)), none⟩])
def c72 : ACode :=
  .seq (.reg [⟨(some 2), .n (.box (.t 0)), none⟩, ⟨(some 4), .n (.alloc [(u32 0), (u32 0), (u32 0), (u32 0), (u32 0), (u32 0), (u32 0), (u32 0), .nils]), none⟩, ⟨(some 5), .p (.mv (.c (i64 0))), none⟩]) <|
  .seq (.seq (.reg [⟨(some 8), .r (.ldN 9 (.t 2)), none⟩, ⟨(some 9), .call (.st 77) [(.t 8)], none⟩, ⟨(some 10), .p (.un .not (.t 9)), none⟩]) <|
  .cond (.t 10) (
    .seq (.reg [⟨(some 11), .p (.build [(u32 0), (u32 0), (u32 0), (u32 0), (u32 0), (u32 0), (u32 0), (u32 0), .nils] []), none⟩, ⟨none, .l (.stN 9 (.t 4) (.t 11)), none⟩, ⟨(some 5), .p (.mv (.c (i64 1))), none⟩]) <|
    .ret) (
    .skip)) <|
  .seq (.keep [1, 2, 4]) <|
  .seq (.reg [⟨(some 6), .p (.mv (.c .nils)), none⟩]) <|
  .seq (.reg [⟨(some 12), .p (.mv (.t 6)), none⟩, ⟨(some 13), .p (.fieldA 8 (.t 2)), none⟩, ⟨(some 14), .r (.ld (.t 13)), none⟩, ⟨(some 15), .l (.app 1 1 (.t 12) (.t 14)), none⟩, ⟨(some 6), .p (.mv (.t 15)), none⟩]) <|
  .seq (.reg [⟨(some 16), .p (.mv (.t 6)), none⟩, ⟨(some 17), .p (.mv (.t 1)), none⟩, ⟨(some 18), .l (.app 1 1 (.t 16) (.t 17)), none⟩, ⟨(some 6), .p (.mv (.t 18)), none⟩]) <|
  .seq (.reg [⟨(some 19), .p (.fieldA 0 (.t 2)), none⟩, ⟨(some 20), .r (.ldN 8 (.t 19)), none⟩, ⟨(some 21), .p (.build [(u32 0), (u32 0), (u32 0), (u32 0), (u32 0), (u32 0), (u32 0), (u32 0), .nils] [(0, 8, (.t 20))]), none⟩, ⟨(some 7), .n (.alloc [(u32 0), (u32 0), (u32 0), (u32 0), (u32 0), (u32 0), (u32 0), (u32 0), .nils]), none⟩, ⟨none, .l (.stN 9 (.t 7) (.t 21)), none⟩]) <|
  .seq (.blk 0 (
    .loop (.seq (.keep [4, 6, 7]) c72_0))) <|
  .seq (.keep [4, 6, 7]) <|
  .seq (.reg [⟨(some 33), .p (.fieldA 8 (.t 7)), none⟩, ⟨(some 34), .r (.ld (.t 33)), none⟩, ⟨(some 35), .p (.mv (.t 6)), none⟩, ⟨(some 36), .l (.app 1 1 (.t 34) (.t 35)), none⟩, ⟨(some 37), .p (.fieldA 8 (.t 7)), none⟩, ⟨none, .l (.st (.t 37) (.t 36)), none⟩]) <|
  .seq (.keep [4, 7]) <|
  .seq (.reg [⟨(some 38), .r (.ldN 9 (.t 7)), none⟩, ⟨none, .l (.stN 9 (.t 4) (.t 38)), none⟩, ⟨(some 5), .p (.mv (.c (i64 0))), none⟩]) <|
  .ret
def r72 : List ARes := [.cell 4 (some 9), .t 5]
/- archivolt/archivoltref02.Start -/
def c73 : ACode :=
  .seq (.reg [⟨(some 0), .n (.alloc [(u32 0), (u32 0), (u32 0), (u32 0), (u32 0), (u32 0), (u32 0), (u32 0), .nils]), none⟩]) <|
  .seq (.reg [⟨(some 2), .p (.build [(u32 0), (u32 0), (u32 0), (u32 0), (u32 0), (u32 0), (u32 0), (u32 0), .nils] []), none⟩, ⟨(some 1), .n (.alloc [(u32 0), (u32 0), (u32 0), (u32 0), (u32 0), (u32 0), (u32 0), (u32 0), .nils]), none⟩, ⟨none, .l (.stN 9 (.t 1) (.t 2)), none⟩]) <|
  .seq (.reg [⟨(some 3), .p (.fieldA 0 (.t 1)), none⟩, ⟨(some 4), .p (.idxA 8 1 (.t 3) (.c (i64 7))), none⟩, ⟨none, .l (.st (.t 4) (.c (u32 1634886504))), none⟩]) <|
  .seq (.reg [⟨(some 5), .r (.ldN 9 (.t 1)), none⟩, ⟨none, .l (.stN 9 (.t 0) (.t 5)), none⟩]) <|
  .ret
def r73 : List ARes := [.cell 0 (some 9)]
/- archivolt/archivoltref02.End -/
def c74_0 : ACode :=
  .seq (.seq (.reg [⟨(some 27), .p (.mv (.t 7)), none⟩, ⟨(some 28), .p (.bin .lss (.t 27) (.c (i64 16))), none⟩]) <|
  .cond (.t 28) (
    .skip) (
    .exit 0)) <|
  .seq (.keep [2, 5, 6, 7]) <|
  .seq (.blk 1 (
    .reg [⟨(some 31), .p (.mv (.t 7)), none⟩, ⟨(some 32), .p (.mv (.t 7)), none⟩, ⟨(some 33), .p (.bin .quo (.t 32) (.c (i64 4))), none⟩, ⟨(some 34), .p (.idxA 8 1 (.t 5) (.t 33)), none⟩, ⟨(some 35), .r (.ld (.t 34)), none⟩, ⟨(some 36), .p (.mv (.t 7)), none⟩, ⟨(some 37), .p (.bin .rem (.t 36) (.c (i64 4))), none⟩, ⟨(some 38), .p (.bin .mul (.c (i64 8)) (.t 37)), none⟩, ⟨(some 39), .p (.bin .shr (.t 35) (.t 38)), none⟩, ⟨(some 40), .p (.conv .u8 (.t 39)), none⟩, ⟨(some 41), .p (.idxA 16 1 (.t 6) (.t 31)), none⟩, ⟨none, .l (.st (.t 41) (.t 40)), none⟩])) <|
  .seq (.keep [2, 5, 6, 7]) <|
  .reg [⟨(some 29), .p (.mv (.t 7)), none⟩, ⟨(some 30), .p (.bin .add (.t 29) (.c (i64 1))), none⟩, ⟨(some 7), .p (.mv (.t 30)), none⟩]
def c74 : ACode :=
  .seq (.reg [⟨(some 1), .n (.box (.t 0)), none⟩, ⟨(some 2), .n (.alloc (List.replicate 16 (u8 0))), none⟩, ⟨(some 3), .p (.mv (.c (i64 0))), none⟩]) <|
  .seq (.seq (.reg [⟨(some 8), .r (.ldN 9 (.t 1)), none⟩, ⟨(some 9), .call (.st 77) [(.t 8)], none⟩, ⟨(some 10), .p (.un .not (.t 9)), none⟩]) <|
  .cond (.t 10) (
    .seq (.reg [⟨(some 11), .p (.build (List.replicate 16 (u8 0)) []), none⟩, ⟨none, .l (.stN 16 (.t 2) (.t 11)), none⟩, ⟨(some 3), .p (.mv (.c (i64 1))), none⟩]) <|
    .ret) (
    .skip)) <|
  .seq (.keep [1, 2]) <|
  .seq (.reg [⟨(some 12), .n (.mksl 1 1 [(u8 0)] (.c (i64 16)) (.c (i64 16))), none⟩, ⟨(some 4), .p (.mv (.t 12)), none⟩]) <|
  .seq (.reg [⟨(some 13), .p (.mv (.t 4)), none⟩, ⟨(some 14), .p (.fieldA 8 (.t 1)), none⟩, ⟨(some 15), .r (.ld (.t 14)), none⟩, ⟨(some 16), .l (.cpy 1 (.t 13) (.t 15)), none⟩]) <|
  .seq (.reg [⟨(some 17), .p (.mv (.t 4)), none⟩, ⟨(some 18), .p (.fieldA 8 (.t 1)), none⟩, ⟨(some 19), .r (.ld (.t 18)), none⟩, ⟨(some 20), .p (.lenS (.t 19)), none⟩, ⟨(some 21), .p (.idxS 1 (.t 17) (.t 20)), none⟩, ⟨none, .l (.st (.t 21) (.c (u8 128))), none⟩]) <|
  .seq (.keep [1, 2, 4]) <|
  .seq (.reg [⟨(some 22), .p (.fieldA 0 (.t 1)), none⟩, ⟨(some 23), .r (.ldN 8 (.t 22)), none⟩, ⟨(some 24), .p (.mv (.t 4)), none⟩, ⟨(some 25), .call (.st 78) [(.t 23), (.t 24)], none⟩, ⟨(some 5), .n (.alloc (List.replicate 8 (u32 0))), none⟩, ⟨none, .l (.stN 8 (.t 5) (.t 25)), none⟩]) <|
  .seq (.keep [2, 5]) <|
  .seq (.reg [⟨(some 26), .p (.build (List.replicate 16 (u8 0)) []), none⟩, ⟨(some 6), .n (.alloc (List.replicate 16 (u8 0))), none⟩, ⟨none, .l (.stN 16 (.t 6) (.t 26)), none⟩]) <|
  .seq (.seq (.reg [⟨(some 7), .p (.mv (.c (i64 0))), none⟩]) <|
  .blk 0 (
    .loop (.seq (.keep [2, 5, 6, 7]) c74_0))) <|
  .seq (.keep [2, 6]) <|
  .seq (.reg [⟨(some 42), .r (.ldN 16 (.t 6)), none⟩, ⟨none, .l (.stN 16 (.t 2) (.t 42)), none⟩, ⟨(some 3), .p (.mv (.c (i64 0))), none⟩]) <|
  .ret
def r74 : List ARes := [.cell 2 (some 16), .t 3]
/- archivolt/sums.register$1 -/
def c75_0 : ACode :=
  .seq (.reg [⟨(some 11), .p (.bin .lss (.t 10) (.c (i64 8))), none⟩]) <|
  .seq (.cond (.t 11) (
    .skip) (
    .exit 0)) <|
  .seq (.keep [0, 2, 10]) <|
  .seq (.blk 1 (
    .seq (.reg [⟨(some 12), .p (.mv (.t 0)), none⟩, ⟨(some 13), .p (.bin .and (.t 12) (.c (u32 1))), none⟩, ⟨(some 14), .p (.bin .eql (.t 13) (.c (u32 1))), none⟩]) <|
    .cond (.t 14) (
      .reg [⟨(some 15), .p (.mv (.t 0)), none⟩, ⟨(some 16), .p (.bin .shr (.t 15) (.c (u64 1))), none⟩, ⟨(some 17), .r (.ld (.t 2)), none⟩, ⟨(some 18), .p (.bin .xor (.t 16) (.t 17)), none⟩, ⟨(some 0), .p (.mv (.t 18)), none⟩]) (
      .reg [⟨(some 19), .p (.mv (.t 0)), none⟩, ⟨(some 20), .p (.bin .shr (.t 19) (.c (u64 1))), none⟩, ⟨(some 0), .p (.mv (.t 20)), none⟩]))) <|
  .seq (.keep [0, 2, 10]) <|
  .reg [⟨(some 21), .p (.bin .add (.t 10) (.c (i64 1))), none⟩, ⟨(some 10), .p (.mv (.t 21)), none⟩]
def c75 : ACode :=
  .seq (.reg [⟨(some 5), .p (.mv (.c (u32 0))), none⟩]) <|
  .seq (.reg [⟨(some 6), .p (.mv (.t 0)), none⟩, ⟨(some 7), .p (.mv (.t 1)), none⟩, ⟨(some 8), .p (.conv .u32 (.t 7)), none⟩, ⟨(some 9), .p (.bin .xor (.t 6) (.t 8)), none⟩, ⟨(some 0), .p (.mv (.t 9)), none⟩]) <|
  .seq (.seq (.reg [⟨(some 10), .p (.mv (.c (i64 0))), none⟩]) <|
  .blk 0 (
    .loop (.seq (.keep [0, 2, 10]) c75_0))) <|
  .seq (.keep [0]) <|
  .seq (.reg [⟨(some 22), .p (.mv (.t 0)), none⟩, ⟨(some 5), .p (.mv (.t 22)), none⟩]) <|
  .ret
def r75 : List ARes := [.t 5]
/- archivolt/sums.blocks$1 -/
def c76_0 : ACode :=
  .seq (.seq (.reg [⟨(some 3), .r (.ld (.t 1)), none⟩, ⟨(some 4), .p (.lenS (.t 3)), none⟩, ⟨(some 5), .p (.bin .geq (.t 4) (.c (i64 16))), none⟩]) <|
  .cond (.t 5) (
    .skip) (
    .exit 0)) <|
  .seq (.keep [0, 1]) <|
  .seq (.blk 1 (
    .seq (.reg [⟨(some 8), .p (.mv (.t 0)), none⟩, ⟨(some 9), .r (.ld (.t 1)), none⟩, ⟨(some 10), .p (.slSl 1 (.t 9) none (some (.c (i64 16))) none), none⟩, ⟨(some 11), .call (.dyn (.t 8)) [(.t 10)], none⟩, ⟨(some 12), .p (.un .not (.t 11)), none⟩]) <|
    .cond (.t 12) (
      .ret) (
      .skip))) <|
  .seq (.keep [0, 1]) <|
  .reg [⟨(some 6), .r (.ld (.t 1)), none⟩, ⟨(some 7), .p (.slSl 1 (.t 6) (some (.c (i64 16))) none none), none⟩, ⟨none, .l (.st (.t 1) (.t 7)), none⟩]
def c76 : ACode :=
  .blk 0 (
    .loop (.seq (.keep [0, 1]) c76_0))
def r76 : List ARes := []
/- archivolt/archivoltref02.ValidSponge -/
def c77 : ACode :=
  .seq (.reg [⟨(some 1), .n (.box (.t 0)), none⟩, ⟨(some 2), .p (.mv (.c (.bool false))), none⟩]) <|
  .seq (.reg [⟨(some 3), .p (.fieldA 8 (.t 1)), none⟩, ⟨(some 4), .r (.ld (.t 3)), none⟩, ⟨(some 5), .p (.lenS (.t 4)), none⟩, ⟨(some 6), .p (.bin .leq (.t 5) (.c (i64 15))), none⟩, ⟨(some 2), .p (.mv (.t 6)), none⟩]) <|
  .ret
def r77 : List ARes := [.t 2]
/- archivolt/archivoltref02.block -/
def c78_0 : ACode :=
  .seq (.seq (.reg [⟨(some 6), .p (.mv (.t 5)), none⟩, ⟨(some 7), .p (.bin .lss (.t 6) (.c (i64 16))), none⟩]) <|
  .cond (.t 7) (
    .skip) (
    .exit 0)) <|
  .seq (.keep [1, 2, 4, 5]) <|
  .seq (.blk 1 (
    .drw [(⟨(some 10), .p (.mv (.t 5)), none⟩, [], false), (⟨(some 11), .p (.bin .quo (.t 10) (.c (i64 4))), none⟩, [], false), (⟨(some 12), .p (.mv (.t 5)), none⟩, [], false), (⟨(some 13), .p (.bin .quo (.t 12) (.c (i64 4))), none⟩, [], false), (⟨(some 14), .p (.idxA 8 1 (.t 2) (.t 13)), none⟩, [], false), (⟨(some 15), .r (.ld (.t 14)), none⟩, [], false), (⟨(some 16), .p (.mv (.t 1)), none⟩, [], false), (⟨(some 17), .p (.mv (.t 5)), none⟩, [], false), (⟨(some 18), .p (.idxS 1 (.t 16) (.t 17)), none⟩, [], false), (⟨(some 19), .r (.ld (.t 18)), none⟩, [], false), (⟨(some 20), .p (.conv .u32 (.t 19)), none⟩, [], false), (⟨(some 21), .p (.mv (.t 5)), none⟩, [], false), (⟨(some 22), .p (.bin .rem (.t 21) (.c (i64 4))), none⟩, [], false), (⟨(some 23), .p (.bin .mul (.c (i64 8)) (.t 22)), none⟩, [], false), (⟨(some 24), .p (.bin .shl (.t 20) (.t 23)), none⟩, [], false), (⟨(some 25), .p (.bin .xor (.t 15) (.t 24)), none⟩, [], false), (⟨(some 26), .p (.idxA 8 1 (.t 2) (.t 11)), none⟩, [], true), (⟨none, .l (.st (.t 26) (.t 25)), none⟩, [], true)])) <|
  .seq (.keep [1, 2, 4, 5]) <|
  .reg [⟨(some 8), .p (.mv (.t 5)), none⟩, ⟨(some 9), .p (.bin .add (.t 8) (.c (i64 1))), none⟩, ⟨(some 5), .p (.mv (.t 9)), none⟩]
def c78 : ACode :=
  .seq (.reg [⟨(some 2), .n (.box (.t 0)), none⟩, ⟨(some 4), .n (.alloc (List.replicate 8 (u32 0))), none⟩]) <|
  .seq (.seq (.reg [⟨(some 5), .p (.mv (.c (i64 0))), none⟩]) <|
  .blk 0 (
    .loop (.seq (.keep [1, 2, 4, 5]) c78_0))) <|
  .seq (.keep [2, 4]) <|
  .seq (.reg [⟨(some 27), .r (.ldN 8 (.t 2)), none⟩, ⟨(some 28), .call (.st 79) [(.t 27)], none⟩, ⟨none, .l (.stN 8 (.t 4) (.t 28)), none⟩]) <|
  .ret
def r78 : List ARes := [.cell 4 (some 8)]
/- archivolt/archivoltref02.Permute -/
def c79_1 : ACode :=
  .seq (.seq (.reg [⟨(some 19), .p (.mv (.t 4)), none⟩, ⟨(some 20), .p (.bin .lss (.t 19) (.c (i64 4))), none⟩]) <|
  .cond (.t 20) (
    .skip) (
    .exit 2)) <|
  .seq (.keep [1, 2, 3, 4]) <|
  .seq (.blk 3 (
    .seq (.drw [(⟨(some 23), .p (.mv (.t 4)), none⟩, [], false), (⟨(some 24), .p (.idxA 8 1 (.t 1) (.t 23)), none⟩, [], false), (⟨(some 25), .r (.ld (.t 24)), none⟩, [], false), (⟨(some 26), .p (.mv (.t 4)), none⟩, [], false), (⟨(some 27), .p (.bin .add (.t 26) (.c (i64 4))), none⟩, [], false), (⟨(some 28), .p (.idxA 8 1 (.t 1) (.t 27)), none⟩, [], false), (⟨(some 29), .r (.ld (.t 28)), none⟩, [], false), (⟨(some 30), .p (.bin .add (.t 25) (.t 29)), none⟩, [], true), (⟨(some 5), .p (.mv (.t 30)), none⟩, [], true)]) <|
    .seq (.keep [1, 2, 3, 4, 5]) <|
    .seq (.reg [⟨(some 31), .p (.mv (.t 4)), none⟩, ⟨(some 32), .p (.bin .add (.t 31) (.c (i64 4))), none⟩, ⟨(some 33), .p (.mv (.t 4)), none⟩, ⟨(some 34), .p (.bin .add (.t 33) (.c (i64 4))), none⟩, ⟨(some 35), .p (.idxA 8 1 (.t 1) (.t 34)), none⟩, ⟨(some 36), .r (.ld (.t 35)), none⟩, ⟨(some 37), .call (.st 80) [(.t 36), (.c (i64 7))], none⟩, ⟨(some 38), .p (.mv (.t 5)), none⟩, ⟨(some 39), .p (.bin .xor (.t 37) (.t 38)), none⟩, ⟨(some 40), .p (.idxA 8 1 (.t 1) (.t 32)), none⟩, ⟨none, .l (.st (.t 40) (.t 39)), none⟩]) <|
    .seq (.keep [1, 2, 3, 4, 5]) <|
    .reg [⟨(some 41), .p (.mv (.t 4)), none⟩, ⟨(some 42), .p (.mv (.t 5)), none⟩, ⟨(some 43), .call (.st 80) [(.t 42), (.c (i64 16))], none⟩, ⟨(some 44), .p (.idxA 8 1 (.t 1) (.t 41)), none⟩, ⟨none, .l (.st (.t 44) (.t 43)), none⟩])) <|
  .seq (.keep [1, 2, 3, 4]) <|
  .reg [⟨(some 21), .p (.mv (.t 4)), none⟩, ⟨(some 22), .p (.bin .add (.t 21) (.c (i64 1))), none⟩, ⟨(some 4), .p (.mv (.t 22)), none⟩]
def c79_0 : ACode :=
  .seq (.seq (.reg [⟨(some 7), .p (.mv (.t 3)), none⟩, ⟨(some 8), .p (.bin .lss (.t 7) (.c (i64 12))), none⟩]) <|
  .cond (.t 8) (
    .skip) (
    .exit 0)) <|
  .seq (.keep [1, 2, 3]) <|
  .seq (.blk 1 (
    .seq (.reg [⟨(some 11), .p (.idxA 8 1 (.t 1) (.c (i64 0))), none⟩, ⟨(some 12), .r (.ld (.t 11)), none⟩, ⟨(some 13), .p (.mv (.t 3)), none⟩, ⟨(some 14), .p (.bin .add (.t 13) (.c (i64 1))), none⟩, ⟨(some 15), .p (.conv .u32 (.t 14)), none⟩, ⟨(some 16), .p (.bin .mul (.t 15) (.c (u32 2654435769))), none⟩, ⟨(some 17), .p (.bin .xor (.t 12) (.t 16)), none⟩, ⟨(some 18), .p (.idxA 8 1 (.t 1) (.c (i64 0))), none⟩, ⟨none, .l (.st (.t 18) (.t 17)), none⟩]) <|
    .seq (.keep [1, 2, 3]) <|
    .seq (.seq (.reg [⟨(some 4), .p (.mv (.c (i64 0))), none⟩]) <|
    .blk 2 (
      .loop (.seq (.keep [1, 2, 3, 4]) c79_1))) <|
    .seq (.keep [1, 2, 3]) <|
    .seq (.reg [⟨(some 45), .p (.idxA 8 1 (.t 1) (.c (i64 4))), none⟩, ⟨(some 46), .r (.ld (.t 45)), none⟩, ⟨(some 6), .p (.mv (.t 46)), none⟩]) <|
    .seq (.reg [⟨(some 47), .p (.idxA 8 1 (.t 1) (.c (i64 5))), none⟩, ⟨(some 48), .r (.ld (.t 47)), none⟩, ⟨(some 49), .p (.idxA 8 1 (.t 1) (.c (i64 4))), none⟩, ⟨none, .l (.st (.t 49) (.t 48)), none⟩]) <|
    .seq (.reg [⟨(some 50), .p (.idxA 8 1 (.t 1) (.c (i64 6))), none⟩, ⟨(some 51), .r (.ld (.t 50)), none⟩, ⟨(some 52), .p (.idxA 8 1 (.t 1) (.c (i64 5))), none⟩, ⟨none, .l (.st (.t 52) (.t 51)), none⟩]) <|
    .seq (.reg [⟨(some 53), .p (.idxA 8 1 (.t 1) (.c (i64 7))), none⟩, ⟨(some 54), .r (.ld (.t 53)), none⟩, ⟨(some 55), .p (.idxA 8 1 (.t 1) (.c (i64 6))), none⟩, ⟨none, .l (.st (.t 55) (.t 54)), none⟩]) <|
    .reg [⟨(some 56), .p (.mv (.t 6)), none⟩, ⟨(some 57), .p (.idxA 8 1 (.t 1) (.c (i64 7))), none⟩, ⟨none, .l (.st (.t 57) (.t 56)), none⟩])) <|
  .seq (.keep [1, 2, 3]) <|
  .reg [⟨(some 9), .p (.mv (.t 3)), none⟩, ⟨(some 10), .p (.bin .add (.t 9) (.c (i64 1))), none⟩, ⟨(some 3), .p (.mv (.t 10)), none⟩]
def c79 : ACode :=
  .seq (.reg [⟨(some 1), .n (.box (.t 0)), none⟩, ⟨(some 2), .n (.alloc (List.replicate 8 (u32 0))), none⟩]) <|
  .seq (.seq (.reg [⟨(some 3), .p (.mv (.c (i64 0))), none⟩]) <|
  .blk 0 (
    .loop (.seq (.keep [1, 2, 3]) c79_0))) <|
  .seq (.keep [1, 2]) <|
  .seq (.reg [⟨(some 58), .r (.ldN 8 (.t 1)), none⟩, ⟨none, .l (.stN 8 (.t 2) (.t 58)), none⟩]) <|
  .ret
def r79 : List ARes := [.cell 2 (some 8)]
/- archivolt/archivoltref02.rot -/
def c80 : ACode :=
  .seq (.reg [⟨(some 4), .p (.mv (.c (u32 0))), none⟩]) <|
  .seq (.drw [(⟨(some 5), .p (.mv (.t 0)), none⟩, [], false), (⟨(some 6), .p (.mv (.t 1)), none⟩, [], false), (⟨(some 7), .p (.bin .shl (.t 5) (.t 6)), none⟩, [], false), (⟨(some 8), .p (.mv (.t 0)), none⟩, [], false), (⟨(some 9), .p (.mv (.t 1)), none⟩, [], false), (⟨(some 10), .p (.bin .sub (.c (i64 32)) (.t 9)), none⟩, [], false), (⟨(some 11), .p (.bin .shr (.t 8) (.t 10)), none⟩, [], false), (⟨(some 12), .p (.bin .or (.t 7) (.t 11)), none⟩, [], true), (⟨(some 4), .p (.mv (.t 12)), none⟩, [], true)]) <|
  .ret
def r80 : List ARes := [.t 4]

def tbl : List (Nat × AFunc) := [(2, ⟨r2, c2, 0⟩), (3, ⟨r3, c3, 0⟩), (4, ⟨r4, c4, 0⟩), (5, ⟨r5, c5, 0⟩), (6, ⟨r6, c6, 0⟩), (7, ⟨r7, c7, 0⟩), (8, ⟨r8, c8, 0⟩), (9, ⟨r9, c9, 0⟩), (10, ⟨r10, c10, 0⟩), (11, ⟨r11, c11, 0⟩), (12, ⟨r12, c12, 0⟩), (13, ⟨r13, c13, 0⟩), (14, ⟨r14, c14, 2⟩), (15, ⟨r15, c15, 1⟩), (16, ⟨r16, c16, 1⟩), (17, ⟨r17, c17, 0⟩), (18, ⟨r18, c18, 0⟩), (19, ⟨r19, c19, 1⟩), (20, ⟨r20, c20, 1⟩), (21, ⟨r21, c21, 1⟩), (22, ⟨r22, c22, 1⟩), (23, ⟨r23, c23, 1⟩), (24, ⟨r24, c24, 1⟩), (25, ⟨r25, c25, 1⟩), (26, ⟨r26, c26, 1⟩), (27, ⟨r27, c27, 0⟩), (28, ⟨r28, c28, 0⟩), (29, ⟨r29, c29, 1⟩), (30, ⟨r30, c30, 1⟩), (31, ⟨r31, c31, 1⟩), (32, ⟨r32, c32, 1⟩), (33, ⟨r33, c33, 1⟩), (34, ⟨r34, c34, 1⟩), (35, ⟨r35, c35, 0⟩), (36, ⟨r36, c36, 0⟩), (37, ⟨r37, c37, 1⟩), (38, ⟨r38, c38, 1⟩), (39, ⟨r39, c39, 1⟩), (40, ⟨r40, c40, 1⟩), (41, ⟨r41, c41, 1⟩), (42, ⟨r42, c42, 0⟩), (43, ⟨r43, c43, 0⟩), (44, ⟨r44, c44, 1⟩), (45, ⟨r45, c45, 1⟩), (46, ⟨r46, c46, 1⟩), (47, ⟨r47, c47, 1⟩), (48, ⟨r48, c48, 1⟩), (49, ⟨r49, c49, 1⟩), (50, ⟨r50, c50, 1⟩), (51, ⟨r51, c51, 0⟩), (52, ⟨r52, c52, 0⟩), (53, ⟨r53, c53, 0⟩), (54, ⟨r54, c54, 1⟩), (55, ⟨r55, c55, 0⟩), (56, ⟨r56, c56, 0⟩), (57, ⟨r57, c57, 1⟩), (58, ⟨r58, c58, 0⟩), (59, ⟨r59, c59, 1⟩), (60, ⟨r60, c60, 0⟩), (61, ⟨r61, c61, 0⟩), (62, ⟨r62, c62, 1⟩), (63, ⟨r63, c63, 1⟩), (64, ⟨r64, c64, 0⟩), (65, ⟨r65, c65, 0⟩), (66, ⟨r66, c66, 0⟩), (67, ⟨r67, c67, 1⟩), (68, ⟨r68, c68, 0⟩), (69, ⟨r69, c69, 0⟩), (70, ⟨r70, c70, 0⟩), (71, ⟨r71, c71, 0⟩), (72, ⟨r72, c72, 0⟩), (73, ⟨r73, c73, 0⟩), (74, ⟨r74, c74, 1⟩), (75, ⟨r75, c75, 0⟩), (76, ⟨r76, c76, 0⟩), (77, ⟨r77, c77, 1⟩), (78, ⟨r78, c78, 1⟩), (79, ⟨r79, c79, 1⟩), (80, ⟨r80, c80, 1⟩)]

def T : Tbl := ⟨lookF tbl, []⟩
theorem fn2 : T.fn 2 = some ⟨r2, c2, 0⟩ := rfl
theorem fn3 : T.fn 3 = some ⟨r3, c3, 0⟩ := rfl
theorem fn4 : T.fn 4 = some ⟨r4, c4, 0⟩ := rfl
theorem fn5 : T.fn 5 = some ⟨r5, c5, 0⟩ := rfl
theorem fn6 : T.fn 6 = some ⟨r6, c6, 0⟩ := rfl
theorem fn7 : T.fn 7 = some ⟨r7, c7, 0⟩ := rfl
theorem fn8 : T.fn 8 = some ⟨r8, c8, 0⟩ := rfl
theorem fn9 : T.fn 9 = some ⟨r9, c9, 0⟩ := rfl
theorem fn10 : T.fn 10 = some ⟨r10, c10, 0⟩ := rfl
theorem fn11 : T.fn 11 = some ⟨r11, c11, 0⟩ := rfl
theorem fn12 : T.fn 12 = some ⟨r12, c12, 0⟩ := rfl
theorem fn13 : T.fn 13 = some ⟨r13, c13, 0⟩ := rfl
theorem fn14 : T.fn 14 = some ⟨r14, c14, 2⟩ := rfl
theorem fn15 : T.fn 15 = some ⟨r15, c15, 1⟩ := rfl
theorem fn16 : T.fn 16 = some ⟨r16, c16, 1⟩ := rfl
theorem fn17 : T.fn 17 = some ⟨r17, c17, 0⟩ := rfl
theorem fn18 : T.fn 18 = some ⟨r18, c18, 0⟩ := rfl
theorem fn19 : T.fn 19 = some ⟨r19, c19, 1⟩ := rfl
theorem fn20 : T.fn 20 = some ⟨r20, c20, 1⟩ := rfl
theorem fn21 : T.fn 21 = some ⟨r21, c21, 1⟩ := rfl
theorem fn22 : T.fn 22 = some ⟨r22, c22, 1⟩ := rfl
theorem fn23 : T.fn 23 = some ⟨r23, c23, 1⟩ := rfl
theorem fn24 : T.fn 24 = some ⟨r24, c24, 1⟩ := rfl
theorem fn25 : T.fn 25 = some ⟨r25, c25, 1⟩ := rfl
theorem fn26 : T.fn 26 = some ⟨r26, c26, 1⟩ := rfl
theorem fn27 : T.fn 27 = some ⟨r27, c27, 0⟩ := rfl
theorem fn28 : T.fn 28 = some ⟨r28, c28, 0⟩ := rfl
theorem fn29 : T.fn 29 = some ⟨r29, c29, 1⟩ := rfl
theorem fn30 : T.fn 30 = some ⟨r30, c30, 1⟩ := rfl
theorem fn31 : T.fn 31 = some ⟨r31, c31, 1⟩ := rfl
theorem fn32 : T.fn 32 = some ⟨r32, c32, 1⟩ := rfl
theorem fn33 : T.fn 33 = some ⟨r33, c33, 1⟩ := rfl
theorem fn34 : T.fn 34 = some ⟨r34, c34, 1⟩ := rfl
theorem fn35 : T.fn 35 = some ⟨r35, c35, 0⟩ := rfl
theorem fn36 : T.fn 36 = some ⟨r36, c36, 0⟩ := rfl
theorem fn37 : T.fn 37 = some ⟨r37, c37, 1⟩ := rfl
theorem fn38 : T.fn 38 = some ⟨r38, c38, 1⟩ := rfl
theorem fn39 : T.fn 39 = some ⟨r39, c39, 1⟩ := rfl
theorem fn40 : T.fn 40 = some ⟨r40, c40, 1⟩ := rfl
theorem fn41 : T.fn 41 = some ⟨r41, c41, 1⟩ := rfl
theorem fn42 : T.fn 42 = some ⟨r42, c42, 0⟩ := rfl
theorem fn43 : T.fn 43 = some ⟨r43, c43, 0⟩ := rfl
theorem fn44 : T.fn 44 = some ⟨r44, c44, 1⟩ := rfl
theorem fn45 : T.fn 45 = some ⟨r45, c45, 1⟩ := rfl
theorem fn46 : T.fn 46 = some ⟨r46, c46, 1⟩ := rfl
theorem fn47 : T.fn 47 = some ⟨r47, c47, 1⟩ := rfl
theorem fn48 : T.fn 48 = some ⟨r48, c48, 1⟩ := rfl
theorem fn49 : T.fn 49 = some ⟨r49, c49, 1⟩ := rfl
theorem fn50 : T.fn 50 = some ⟨r50, c50, 1⟩ := rfl
theorem fn51 : T.fn 51 = some ⟨r51, c51, 0⟩ := rfl
theorem fn52 : T.fn 52 = some ⟨r52, c52, 0⟩ := rfl
theorem fn53 : T.fn 53 = some ⟨r53, c53, 0⟩ := rfl
theorem fn54 : T.fn 54 = some ⟨r54, c54, 1⟩ := rfl
theorem fn55 : T.fn 55 = some ⟨r55, c55, 0⟩ := rfl
theorem fn56 : T.fn 56 = some ⟨r56, c56, 0⟩ := rfl
theorem fn57 : T.fn 57 = some ⟨r57, c57, 1⟩ := rfl
theorem fn58 : T.fn 58 = some ⟨r58, c58, 0⟩ := rfl
theorem fn59 : T.fn 59 = some ⟨r59, c59, 1⟩ := rfl
theorem fn60 : T.fn 60 = some ⟨r60, c60, 0⟩ := rfl
theorem fn61 : T.fn 61 = some ⟨r61, c61, 0⟩ := rfl
theorem fn62 : T.fn 62 = some ⟨r62, c62, 1⟩ := rfl
theorem fn63 : T.fn 63 = some ⟨r63, c63, 1⟩ := rfl
theorem fn64 : T.fn 64 = some ⟨r64, c64, 0⟩ := rfl
theorem fn65 : T.fn 65 = some ⟨r65, c65, 0⟩ := rfl
theorem fn66 : T.fn 66 = some ⟨r66, c66, 0⟩ := rfl
theorem fn67 : T.fn 67 = some ⟨r67, c67, 1⟩ := rfl
theorem fn68 : T.fn 68 = some ⟨r68, c68, 0⟩ := rfl
theorem fn69 : T.fn 69 = some ⟨r69, c69, 0⟩ := rfl
theorem fn70 : T.fn 70 = some ⟨r70, c70, 0⟩ := rfl
theorem fn71 : T.fn 71 = some ⟨r71, c71, 0⟩ := rfl
theorem fn72 : T.fn 72 = some ⟨r72, c72, 0⟩ := rfl
theorem fn73 : T.fn 73 = some ⟨r73, c73, 0⟩ := rfl
theorem fn74 : T.fn 74 = some ⟨r74, c74, 1⟩ := rfl
theorem fn75 : T.fn 75 = some ⟨r75, c75, 0⟩ := rfl
theorem fn76 : T.fn 76 = some ⟨r76, c76, 0⟩ := rfl
theorem fn77 : T.fn 77 = some ⟨r77, c77, 1⟩ := rfl
theorem fn78 : T.fn 78 = some ⟨r78, c78, 1⟩ := rfl
theorem fn79 : T.fn 79 = some ⟨r79, c79, 1⟩ := rfl
theorem fn80 : T.fn 80 = some ⟨r80, c80, 1⟩ := rfl

end Go.Proofs.Ytccepmhhilhajaa.K

/- The code of A is what the compiler makes of the program. -/
set_option linter.unusedVariables false
set_option maxRecDepth 100000
namespace Go.Proofs.Ytccepmhhilhajaa.K
open Go Go.A

theorem e2 : EOk Try.prog 2 ⟨r2, c2, 0⟩ := EOk.of Try.func2 (by kernel_rfl) (by kernel_rfl)
theorem e3 : EOk Try.prog 3 ⟨r3, c3, 0⟩ := EOk.of Try.func3 (by kernel_rfl) (by kernel_rfl)
theorem e4 : EOk Try.prog 4 ⟨r4, c4, 0⟩ := EOk.of Try.func4 (by kernel_rfl) (by kernel_rfl)
theorem e5 : EOk Try.prog 5 ⟨r5, c5, 0⟩ := EOk.of Try.func5 (by kernel_rfl) (by kernel_rfl)
theorem e6 : EOk Try.prog 6 ⟨r6, c6, 0⟩ := EOk.of Try.func6 (by kernel_rfl) (by kernel_rfl)
theorem e7 : EOk Try.prog 7 ⟨r7, c7, 0⟩ := EOk.of Try.func7 (by kernel_rfl) (by kernel_rfl)
theorem e8 : EOk Try.prog 8 ⟨r8, c8, 0⟩ := EOk.of Try.func8 (by kernel_rfl) (by kernel_rfl)
theorem e9 : EOk Try.prog 9 ⟨r9, c9, 0⟩ := EOk.of Try.func9 (by kernel_rfl) (by kernel_rfl)
theorem e10 : EOk Try.prog 10 ⟨r10, c10, 0⟩ := EOk.of Try.func10 (by kernel_rfl) (by kernel_rfl)
theorem e11 : EOk Try.prog 11 ⟨r11, c11, 0⟩ := EOk.of Try.func11 (by kernel_rfl) (by kernel_rfl)
theorem e12 : EOk Try.prog 12 ⟨r12, c12, 0⟩ := EOk.of Try.func12 (by kernel_rfl) (by kernel_rfl)
theorem e13 : EOk Try.prog 13 ⟨r13, c13, 0⟩ := EOk.of Try.func13 (by kernel_rfl) (by kernel_rfl)
theorem e14 : EOk Try.prog 14 ⟨r14, c14, 2⟩ := EOk.of Try.func14 (by kernel_rfl) (by kernel_rfl)
theorem e15 : EOk Try.prog 15 ⟨r15, c15, 1⟩ := EOk.of Try.func15 (by kernel_rfl) (by kernel_rfl)
theorem e16 : EOk Try.prog 16 ⟨r16, c16, 1⟩ := EOk.of Try.func16 (by kernel_rfl) (by kernel_rfl)
theorem e17 : EOk Try.prog 17 ⟨r17, c17, 0⟩ := EOk.of Try.func17 (by kernel_rfl) (by kernel_rfl)
theorem e18 : EOk Try.prog 18 ⟨r18, c18, 0⟩ := EOk.of Try.func18 (by kernel_rfl) (by kernel_rfl)
theorem e19 : EOk Try.prog 19 ⟨r19, c19, 1⟩ := EOk.of Try.func19 (by kernel_rfl) (by kernel_rfl)
theorem e20 : EOk Try.prog 20 ⟨r20, c20, 1⟩ := EOk.of Try.func20 (by kernel_rfl) (by kernel_rfl)
theorem e21 : EOk Try.prog 21 ⟨r21, c21, 1⟩ := EOk.of Try.func21 (by kernel_rfl) (by kernel_rfl)
theorem e22 : EOk Try.prog 22 ⟨r22, c22, 1⟩ := EOk.of Try.func22 (by kernel_rfl) (by kernel_rfl)
theorem e23 : EOk Try.prog 23 ⟨r23, c23, 1⟩ := EOk.of Try.func23 (by kernel_rfl) (by kernel_rfl)
theorem e24 : EOk Try.prog 24 ⟨r24, c24, 1⟩ := EOk.of Try.func24 (by kernel_rfl) (by kernel_rfl)
theorem e25 : EOk Try.prog 25 ⟨r25, c25, 1⟩ := EOk.of Try.func25 (by kernel_rfl) (by kernel_rfl)
theorem e26 : EOk Try.prog 26 ⟨r26, c26, 1⟩ := EOk.of Try.func26 (by kernel_rfl) (by kernel_rfl)
theorem e27 : EOk Try.prog 27 ⟨r27, c27, 0⟩ := EOk.of Try.func27 (by kernel_rfl) (by kernel_rfl)
theorem e28 : EOk Try.prog 28 ⟨r28, c28, 0⟩ := EOk.of Try.func28 (by kernel_rfl) (by kernel_rfl)
theorem e29 : EOk Try.prog 29 ⟨r29, c29, 1⟩ := EOk.of Try.func29 (by kernel_rfl) (by kernel_rfl)
theorem e30 : EOk Try.prog 30 ⟨r30, c30, 1⟩ := EOk.of Try.func30 (by kernel_rfl) (by kernel_rfl)
theorem e31 : EOk Try.prog 31 ⟨r31, c31, 1⟩ := EOk.of Try.func31 (by kernel_rfl) (by kernel_rfl)
theorem e32 : EOk Try.prog 32 ⟨r32, c32, 1⟩ := EOk.of Try.func32 (by kernel_rfl) (by kernel_rfl)
theorem e33 : EOk Try.prog 33 ⟨r33, c33, 1⟩ := EOk.of Try.func33 (by kernel_rfl) (by kernel_rfl)
theorem e34 : EOk Try.prog 34 ⟨r34, c34, 1⟩ := EOk.of Try.func34 (by kernel_rfl) (by kernel_rfl)
theorem e35 : EOk Try.prog 35 ⟨r35, c35, 0⟩ := EOk.of Try.func35 (by kernel_rfl) (by kernel_rfl)
theorem e36 : EOk Try.prog 36 ⟨r36, c36, 0⟩ := EOk.of Try.func36 (by kernel_rfl) (by kernel_rfl)
theorem e37 : EOk Try.prog 37 ⟨r37, c37, 1⟩ := EOk.of Try.func37 (by kernel_rfl) (by kernel_rfl)
theorem e38 : EOk Try.prog 38 ⟨r38, c38, 1⟩ := EOk.of Try.func38 (by kernel_rfl) (by kernel_rfl)
theorem e39 : EOk Try.prog 39 ⟨r39, c39, 1⟩ := EOk.of Try.func39 (by kernel_rfl) (by kernel_rfl)
theorem e40 : EOk Try.prog 40 ⟨r40, c40, 1⟩ := EOk.of Try.func40 (by kernel_rfl) (by kernel_rfl)
theorem e41 : EOk Try.prog 41 ⟨r41, c41, 1⟩ := EOk.of Try.func41 (by kernel_rfl) (by kernel_rfl)
theorem e42 : EOk Try.prog 42 ⟨r42, c42, 0⟩ := EOk.of Try.func42 (by kernel_rfl) (by kernel_rfl)
theorem e43 : EOk Try.prog 43 ⟨r43, c43, 0⟩ := EOk.of Try.func43 (by kernel_rfl) (by kernel_rfl)
theorem e44 : EOk Try.prog 44 ⟨r44, c44, 1⟩ := EOk.of Try.func44 (by kernel_rfl) (by kernel_rfl)
theorem e45 : EOk Try.prog 45 ⟨r45, c45, 1⟩ := EOk.of Try.func45 (by kernel_rfl) (by kernel_rfl)
theorem e46 : EOk Try.prog 46 ⟨r46, c46, 1⟩ := EOk.of Try.func46 (by kernel_rfl) (by kernel_rfl)
theorem e47 : EOk Try.prog 47 ⟨r47, c47, 1⟩ := EOk.of Try.func47 (by kernel_rfl) (by kernel_rfl)
theorem e48 : EOk Try.prog 48 ⟨r48, c48, 1⟩ := EOk.of Try.func48 (by kernel_rfl) (by kernel_rfl)
theorem e49 : EOk Try.prog 49 ⟨r49, c49, 1⟩ := EOk.of Try.func49 (by kernel_rfl) (by kernel_rfl)
theorem e50 : EOk Try.prog 50 ⟨r50, c50, 1⟩ := EOk.of Try.func50 (by kernel_rfl) (by kernel_rfl)
theorem e51 : EOk Try.prog 51 ⟨r51, c51, 0⟩ := EOk.of Try.func51 (by kernel_rfl) (by kernel_rfl)
theorem e52 : EOk Try.prog 52 ⟨r52, c52, 0⟩ := EOk.of Try.func52 (by kernel_rfl) (by kernel_rfl)
theorem e53 : EOk Try.prog 53 ⟨r53, c53, 0⟩ := EOk.of Try.func53 (by kernel_rfl) (by kernel_rfl)
theorem e54 : EOk Try.prog 54 ⟨r54, c54, 1⟩ := EOk.of Try.func54 (by kernel_rfl) (by kernel_rfl)
theorem e55 : EOk Try.prog 55 ⟨r55, c55, 0⟩ := EOk.of Try.func55 (by kernel_rfl) (by kernel_rfl)
theorem e56 : EOk Try.prog 56 ⟨r56, c56, 0⟩ := EOk.of Try.func56 (by kernel_rfl) (by kernel_rfl)
theorem e57 : EOk Try.prog 57 ⟨r57, c57, 1⟩ := EOk.of Try.func57 (by kernel_rfl) (by kernel_rfl)
theorem e58 : EOk Try.prog 58 ⟨r58, c58, 0⟩ := EOk.of Try.func58 (by kernel_rfl) (by kernel_rfl)
theorem e59 : EOk Try.prog 59 ⟨r59, c59, 1⟩ := EOk.of Try.func59 (by kernel_rfl) (by kernel_rfl)
theorem e60 : EOk Try.prog 60 ⟨r60, c60, 0⟩ := EOk.of Try.func60 (by kernel_rfl) (by kernel_rfl)
theorem e61 : EOk Try.prog 61 ⟨r61, c61, 0⟩ := EOk.of Try.func61 (by kernel_rfl) (by kernel_rfl)
theorem e62 : EOk Try.prog 62 ⟨r62, c62, 1⟩ := EOk.of Try.func62 (by kernel_rfl) (by kernel_rfl)
theorem e63 : EOk Try.prog 63 ⟨r63, c63, 1⟩ := EOk.of Try.func63 (by kernel_rfl) (by kernel_rfl)
theorem e64 : EOk Try.prog 64 ⟨r64, c64, 0⟩ := EOk.of Try.func64 (by kernel_rfl) (by kernel_rfl)
theorem e65 : EOk Try.prog 65 ⟨r65, c65, 0⟩ := EOk.of Try.func65 (by kernel_rfl) (by kernel_rfl)
theorem e66 : EOk Try.prog 66 ⟨r66, c66, 0⟩ := EOk.of Try.func66 (by kernel_rfl) (by kernel_rfl)
theorem e67 : EOk Try.prog 67 ⟨r67, c67, 1⟩ := EOk.of Try.func67 (by kernel_rfl) (by kernel_rfl)
theorem e68 : EOk Try.prog 68 ⟨r68, c68, 0⟩ := EOk.of Try.func68 (by kernel_rfl) (by kernel_rfl)
theorem e69 : EOk Try.prog 69 ⟨r69, c69, 0⟩ := EOk.of Try.func69 (by kernel_rfl) (by kernel_rfl)
theorem e70 : EOk Try.prog 70 ⟨r70, c70, 0⟩ := EOk.of Try.func70 (by kernel_rfl) (by kernel_rfl)
theorem e71 : EOk Try.prog 71 ⟨r71, c71, 0⟩ := EOk.of Try.func71 (by kernel_rfl) (by kernel_rfl)
theorem e72 : EOk Try.prog 72 ⟨r72, c72, 0⟩ := EOk.of Try.func72 (by kernel_rfl) (by kernel_rfl)
theorem e73 : EOk Try.prog 73 ⟨r73, c73, 0⟩ := EOk.of Try.func73 (by kernel_rfl) (by kernel_rfl)
theorem e74 : EOk Try.prog 74 ⟨r74, c74, 1⟩ := EOk.of Try.func74 (by kernel_rfl) (by kernel_rfl)
theorem e75 : EOk Try.prog 75 ⟨r75, c75, 0⟩ := EOk.of Try.func75 (by kernel_rfl) (by kernel_rfl)
theorem e76 : EOk Try.prog 76 ⟨r76, c76, 0⟩ := EOk.of Try.func76 (by kernel_rfl) (by kernel_rfl)
theorem e77 : EOk Try.prog 77 ⟨r77, c77, 1⟩ := EOk.of Try.func77 (by kernel_rfl) (by kernel_rfl)
theorem e78 : EOk Try.prog 78 ⟨r78, c78, 1⟩ := EOk.of Try.func78 (by kernel_rfl) (by kernel_rfl)
theorem e79 : EOk Try.prog 79 ⟨r79, c79, 1⟩ := EOk.of Try.func79 (by kernel_rfl) (by kernel_rfl)
theorem e80 : EOk Try.prog 80 ⟨r80, c80, 1⟩ := EOk.of Try.func80 (by kernel_rfl) (by kernel_rfl)

theorem tblOk : TblOk Try.prog T := lookF_ok fun x hx => by
  unfold tbl at hx
  simp only [List.mem_cons, List.not_mem_nil, or_false] at hx
  rcases hx with rfl | rfl | rfl | rfl | rfl | rfl | rfl | rfl | rfl | rfl | rfl | rfl | rfl | rfl | rfl | rfl | rfl | rfl | rfl | rfl | rfl | rfl | rfl | rfl | rfl | rfl | rfl | rfl | rfl | rfl | rfl | rfl | rfl | rfl | rfl | rfl | rfl | rfl | rfl | rfl | rfl | rfl | rfl | rfl | rfl | rfl | rfl | rfl | rfl | rfl | rfl | rfl | rfl | rfl | rfl | rfl | rfl | rfl | rfl | rfl | rfl | rfl | rfl | rfl | rfl | rfl | rfl | rfl | rfl | rfl | rfl | rfl | rfl | rfl | rfl | rfl | rfl | rfl | rfl
  · exact e2
  · exact e3
  · exact e4
  · exact e5
  · exact e6
  · exact e7
  · exact e8
  · exact e9
  · exact e10
  · exact e11
  · exact e12
  · exact e13
  · exact e14
  · exact e15
  · exact e16
  · exact e17
  · exact e18
  · exact e19
  · exact e20
  · exact e21
  · exact e22
  · exact e23
  · exact e24
  · exact e25
  · exact e26
  · exact e27
  · exact e28
  · exact e29
  · exact e30
  · exact e31
  · exact e32
  · exact e33
  · exact e34
  · exact e35
  · exact e36
  · exact e37
  · exact e38
  · exact e39
  · exact e40
  · exact e41
  · exact e42
  · exact e43
  · exact e44
  · exact e45
  · exact e46
  · exact e47
  · exact e48
  · exact e49
  · exact e50
  · exact e51
  · exact e52
  · exact e53
  · exact e54
  · exact e55
  · exact e56
  · exact e57
  · exact e58
  · exact e59
  · exact e60
  · exact e61
  · exact e62
  · exact e63
  · exact e64
  · exact e65
  · exact e66
  · exact e67
  · exact e68
  · exact e69
  · exact e70
  · exact e71
  · exact e72
  · exact e73
  · exact e74
  · exact e75
  · exact e76
  · exact e77
  · exact e78
  · exact e79
  · exact e80

end Go.Proofs.Ytccepmhhilhajaa.K

/- Runs of A on open values: slices as lists of cells; loops by an invariant. -/
set_option linter.unusedVariables false
set_option linter.unusedSimpArgs false
set_option linter.unusedSectionVars false
namespace Go.A

/-- The cells of a slice. -/
def rc (e : Nat) (h : Heap) : V → Option (List V)
  | .nils => some []
  | .sl e' b o n c => if e' = e ∧ n ≤ c then readN h b o (n * e) else none
  | _ => none
def lenOf : V → Nat
  | .sl _ _ _ n _ => n
  | _ => 0
def blkOf : V → Nat
  | .sl _ b _ _ _ => b
  | _ => 0
def offOf : V → Nat
  | .sl _ _ o _ _ => o
  | _ => 0
def isS : V → Bool
  | .sl .. => true
  | .nils => true
  | _ => false

theorem lenOf_nils : lenOf .nils = 0 := Eq.trans rfl rfl
theorem lenOf_sl (e b o n c : Nat) : lenOf (.sl e b o n c) = n := Eq.trans rfl rfl
theorem blkOf_sl (e b o n c : Nat) : blkOf (.sl e b o n c) = b := Eq.trans rfl rfl
theorem offOf_sl (e b o n c : Nat) : offOf (.sl e b o n c) = o := Eq.trans rfl rfl
theorem vLen_of {v : V} (h : isS v = true) : vLen v = some (i64 (lenOf v)) := by
  cases v <;> first | rfl | cases h
theorem vIS_of {v : V} (e j : Nat) (h : j < lenOf v) : vIS e v (some j) = some (.ptr (blkOf v) (offOf v + j * e)) := by
  cases v <;> simp_all [lenOf, vIS, blkOf, offOf]
theorem isS_ok {v : V} (h : isS v = true) : v.ok = true := by cases v <;> first | rfl | cases h
theorem isS_one {v : V} (h : isS v = true) : v.one = true := by cases v <;> first | rfl | cases h
theorem isS_cells {v : V} (h : isS v = true) : v.cells = [v] := by cases v <;> first | rfl | cases h

theorem rc_cases {e : Nat} {H : Heap} {v : V} {cs : List V} (h : rc e H v = some cs) :
    (v = .nils ∧ cs = []) ∨ ∃ b o n c bs, v = .sl e b o n c ∧ n ≤ c ∧ cellsAt H b = some bs ∧ o + n * e ≤ bs.length ∧ cs = (bs.drop o).take (n * e) := by
  unfold rc at h
  split at h
  · left; exact ⟨rfl, (Option.some.inj h).symm⟩
  · rename_i e' b o n c
    split at h
    case isFalse => cases h
    rename_i hc
    right
    unfold readN at h
    cases hb : cellsAt H b with
    | none => rw [hb] at h; cases h
    | some bs =>
      rw [hb] at h
      simp only [Option.bind_some] at h
      split at h
      case isFalse => cases h
      rename_i hl
      exact ⟨b, o, n, c, bs, by rw [hc.1], hc.2, hb, hl, (Option.some.inj h).symm⟩
  · cases h

theorem rc_mk {e : Nat} {H : Heap} {b o n c : Nat} {bs : List V} (h1 : n ≤ c) (h2 : cellsAt H b = some bs) (h3 : o + n * e ≤ bs.length) : rc e H (.sl e b o n c) = some ((bs.drop o).take (n * e)) := by
  simp [rc, h1, readN, h2, h3]

theorem cellsAt_lt {H : Heap} {b : Nat} {bs : List V} (h : cellsAt H b = some bs) : b < H.length := by
  unfold cellsAt at h
  by_cases hb : b < H.length
  · exact hb
  · rw [List.getElem?_eq_none (by omega)] at h; cases h
theorem cellsAt_app {H : Heap} {b : Nat} (h : b < H.length) (x : Heap) : cellsAt (H ++ x) b = cellsAt H b := by
  simp only [cellsAt, List.getElem?_append_left h]
theorem cellsAt_ro (H : Heap) (b : Nat) : cellsAt (roH H) b = cellsAt H b := by
  simp only [cellsAt, roH, List.getElem?_map]
  cases H[b]? with
  | none => rfl
  | some y => cases y <;> rfl

section
variable {e : Nat} {H : Heap} {v : V} {cs : List V}

theorem rc_isS (h : rc e H v = some cs) : isS v = true := by
  rcases rc_cases h with ⟨rfl, -⟩ | ⟨b, o, n, c, bs, rfl, -⟩ <;> rfl
theorem rc_len (h : rc e H v = some cs) : cs.length = lenOf v * e := by
  rcases rc_cases h with ⟨rfl, rfl⟩ | ⟨b, o, n, c, bs, rfl, h1, h2, h3, rfl⟩
  · simp [lenOf]
  · simp only [lenOf, List.length_take, List.length_drop]; omega
theorem rc_app (h : rc e H v = some cs) (x : Heap) : rc e (H ++ x) v = some cs := by
  rcases rc_cases h with ⟨rfl, rfl⟩ | ⟨b, o, n, c, bs, rfl, h1, h2, h3, rfl⟩
  · rfl
  · exact rc_mk h1 (by rw [cellsAt_app (cellsAt_lt h2), h2]) h3
theorem rc_ro (h : rc e H v = some cs) : rc e (roH H) v = some cs := by
  rcases rc_cases h with ⟨rfl, rfl⟩ | ⟨b, o, n, c, bs, rfl, h1, h2, h3, rfl⟩
  · rfl
  · exact rc_mk h1 (by rw [cellsAt_ro, h2]) h3
theorem rc_at (h : rc e H v = some cs) (j : Nat) (hj : j < cs.length) : kAt (offOf v + j) (cellsAt H (blkOf v)) = cs[j]? := by
  rcases rc_cases h with ⟨rfl, rfl⟩ | ⟨b, o, n, c, bs, rfl, h1, h2, h3, rfl⟩
  · cases hj
  · simp only [blkOf, offOf, h2, kAt]
    rw [List.length_take, List.length_drop] at hj
    rw [List.getElem?_take, if_pos (by omega), List.getElem?_drop]
theorem rc_blk (h : rc e H v = some cs) (hj : 0 < cs.length) : blkOf v < H.length := by
  rcases rc_cases h with ⟨rfl, rfl⟩ | ⟨b, o, n, c, bs, rfl, h1, h2, h3, rfl⟩
  · cases hj
  · exact cellsAt_lt h2
theorem rc_at_app (h : rc e H v = some cs) (x : Heap) (j : Nat) (hj : j < cs.length) : kAt (offOf v + j) (cellsAt (H ++ x) (blkOf v)) = cs[j]? :=
  rc_at (rc_app h x) j hj
theorem rc_ag (h : rc e H v = some cs) (k m : Nat) (hj : k + m ≤ cs.length) (hm : 0 < m) : kAg (offOf v + k) m (cellsAt H (blkOf v)) = some (.agg ((cs.drop k).take m)) := by
  rcases rc_cases h with ⟨rfl, rfl⟩ | ⟨b, o, n, c, bs, rfl, h1, h2, h3, rfl⟩
  · simp at hj; omega
  · simp only [blkOf, offOf, h2]
    rw [List.length_take, List.length_drop] at hj
    rw [kAg_some _ _ _ (by omega)]
    rw [List.drop_take, List.take_take, List.drop_drop]
    congr 3
    omega
theorem rc_ag_app (h : rc e H v = some cs) (x : Heap) (k m : Nat) (hj : k + m ≤ cs.length) (hm : 0 < m) : kAg (offOf v + k) m (cellsAt (H ++ x) (blkOf v)) = some (.agg ((cs.drop k).take m)) :=
  rc_ag (rc_app h x) k m hj hm

/-- A part of a slice. -/
def slc (e : Nat) (v : V) (l h : Nat) : V := match v with
  | .sl _ b o _ c => .sl e b (if c = l then o else o + l * e) (h - l) (c - l)
  | _ => .nils
theorem slc_len (e : Nat) (v : V) (l h : Nat) (h2 : h ≤ lenOf v) : lenOf (slc e v l h) = h - l := by
  cases v <;> simp_all [slc, lenOf]
theorem rc_slc (hr : rc e H v = some cs) (l h : Nat) (h1 : l ≤ h) (h2 : h ≤ lenOf v) : rc e H (slc e v l h) = some ((cs.take (h * e)).drop (l * e)) := by
  rcases rc_cases hr with ⟨rfl, rfl⟩ | ⟨b, o, n, c, bs, rfl, g1, g2, g3, rfl⟩
  · simp [slc, rc]
  · simp only [lenOf] at h2
    have a1 : h * e ≤ n * e := Nat.mul_le_mul_right _ h2
    have a2 : l * e ≤ h * e := Nat.mul_le_mul_right _ h1
    have a3 : (h - l) * e = h * e - l * e := Nat.sub_mul _ _ _
    by_cases hc : c = l
    · have : h - l = 0 := by omega
      simp only [slc, if_pos hc, this]
      have hcl : h = l := by omega
      subst hcl
      rw [rc_mk (by omega) g2 (by simp; omega), Nat.zero_mul, List.take_zero, Option.some.injEq, eq_comm, List.drop_eq_nil_iff, List.length_take]
      omega
    · simp only [slc, if_neg hc]
      rw [rc_mk (by omega) g2 (by omega)]
      congr 1
      rw [List.take_take, List.drop_take, List.drop_drop, a3]
      congr 1
      omega
theorem sl_lo (hr : rc e H v = some cs) (l : Int) (h0 : 0 ≤ l) (h1 : l.toNat ≤ lenOf v) : vSl e v (some (i64 l)) none none = some (slc e v l.toNat (lenOf v)) := by
  rcases rc_cases hr with ⟨rfl, rfl⟩ | ⟨b, o, n, c, bs, rfl, g1, g2, g3, rfl⟩
  · simp only [lenOf] at h1
    have : l.toNat = 0 := by omega
    simp [vSl, bounds, nat_i64 l h0, this, slc]
  · simp only [lenOf] at h1
    rw [vSl_eq, bounds_eq, on_some, on_none, on_none, nat_i64 l h0]
    simp only [Option.isSome_none, Bool.not_false, Bool.true_or]
    rw [bd_some _ _ _ _ h1 g1 (Nat.le_refl _)]
    simp [kSl, slc, lenOf]
theorem sl_hi (hr : rc e H v = some cs) (l : Int) (h0 : 0 ≤ l) (h1 : l.toNat ≤ lenOf v) : vSl e v none (some (i64 l)) none = some (slc e v 0 l.toNat) := by
  rcases rc_cases hr with ⟨rfl, rfl⟩ | ⟨b, o, n, c, bs, rfl, g1, g2, g3, rfl⟩
  · simp only [lenOf] at h1
    have : l.toNat = 0 := by omega
    simp [vSl, bounds, nat_i64 l h0, this, slc]
  · simp only [lenOf] at h1
    rw [vSl_eq, bounds_eq, on_some, on_none, on_none, nat_i64 l h0]
    simp only [Option.isSome_none, Bool.not_false, Bool.true_or]
    rw [bd_some _ _ _ _ (Nat.zero_le _) (by omega) (Nat.le_refl _)]
    simp [kSl, slc, lenOf]
theorem sl_lh (hr : rc e H v = some cs) (l h : Int) (h0 : 0 ≤ l) (h1 : l ≤ h) (h2 : h.toNat ≤ lenOf v) : vSl e v (some (i64 l)) (some (i64 h)) none = some (slc e v l.toNat h.toNat) := by
  have h3 : l.toNat ≤ h.toNat := by omega
  rcases rc_cases hr with ⟨rfl, rfl⟩ | ⟨b, o, n, c, bs, rfl, g1, g2, g3, rfl⟩
  · simp only [lenOf] at h2
    have a : h.toNat = 0 := by omega
    have b : l.toNat = 0 := by omega
    simp [vSl, bounds, nat_i64 l h0, nat_i64 h (by omega), a, b, slc]
  · simp only [lenOf] at h2
    rw [vSl_eq, bounds_eq, on_some, on_some, on_none, nat_i64 l h0, nat_i64 h (by omega)]
    simp only [Option.isSome_none, Bool.not_false, Bool.true_or]
    rw [bd_some _ _ _ _ h3 (by omega) (Nat.le_refl _)]
    simp [kSl, slc, lenOf]
theorem sl_nn (hr : rc e H v = some cs) : vSl e v none none none = some (slc e v 0 (lenOf v)) := by
  rcases rc_cases hr with ⟨rfl, rfl⟩ | ⟨b, o, n, c, bs, rfl, g1, g2, g3, rfl⟩
  · simp [vSl, bounds, slc]
  · rw [vSl_eq, bounds_eq, on_none, on_none, on_none]
    simp only [Option.isSome_none, Bool.not_false, Bool.true_or]
    rw [bd_some _ _ _ _ (Nat.zero_le _) g1 (Nat.le_refl _)]
    simp [kSl, slc, lenOf]

theorem src_of (hr : rc e H v = some cs) : srcCells H e v = some (lenOf v, cs) := by
  rcases rc_cases hr with ⟨rfl, rfl⟩ | ⟨b, o, n, c, bs, rfl, g1, g2, g3, rfl⟩
  · rfl
  · simp [srcCells, readN, g2, g3, lenOf]
end

/-- Bytes as cells. -/
def cu8 (l : List (BitVec 8)) : List V := l.map u8
def cu32 (l : List (BitVec 32)) : List V := l.map u32
theorem cu8_len (l : List (BitVec 8)) : (cu8 l).length = l.length := by simp [cu8]
theorem cu32_len (l : List (BitVec 32)) : (cu32 l).length = l.length := by simp [cu32]
theorem cu8_one (l : List (BitVec 8)) : (cu8 l).all V.one = true := by simp [cu8, one_u8]
theorem cu32_one (l : List (BitVec 32)) : (cu32 l).all V.one = true := by simp [cu32, one_u32]
theorem cu8_at (l : List (BitVec 8)) (j : Nat) (h : j < l.length) : (cu8 l)[j]? = some (u8 l[j]) := by simp [cu8, h]
theorem cu32_at (l : List (BitVec 32)) (j : Nat) (h : j < l.length) : (cu32 l)[j]? = some (u32 l[j]) := by simp [cu32, h]
theorem cu8_app (a b : List (BitVec 8)) : cu8 a ++ cu8 b = cu8 (a ++ b) := by simp [cu8]
theorem cu32_app (a b : List (BitVec 32)) : cu32 a ++ cu32 b = cu32 (a ++ b) := by simp [cu32]
theorem cu8_take (a : List (BitVec 8)) (n : Nat) : (cu8 a).take n = cu8 (a.take n) := by simp [cu8, List.map_take]
theorem cu8_drop (a : List (BitVec 8)) (n : Nat) : (cu8 a).drop n = cu8 (a.drop n) := by simp [cu8, List.map_drop]
theorem bel_cu8 (n : Nat) : ∀ (l : List (BitVec 8)), belowL n (cu8 l) = true
  | [] => rfl
  | x :: l => by simp only [cu8, List.map_cons, belowL]; exact bel_cu8 n l
theorem bel_agg8 (n : Nat) (l : List (BitVec 8)) : (V.agg (cu8 l)).bel n = true := by simp only [V.bel]; exact bel_cu8 n l
theorem bel_cu32 (n : Nat) : ∀ (l : List (BitVec 32)), belowL n (cu32 l) = true
  | [] => rfl
  | x :: l => by simp only [cu32, List.map_cons, belowL]; exact bel_cu32 n l
theorem nat_u8_eq (x : BitVec 8) : UInt8.ofNat ((x.toNat : Int).toNat) = UInt8.ofBitVec x := by
  apply UInt8.toBitVec_inj.1
  simp
theorem bytesOf_cu8 : ∀ (l : List (BitVec 8)), bytesOf (cu8 l) = some (l.map UInt8.ofBitVec)
  | [] => rfl
  | x :: l => by
    show (bytesOf (cu8 l)).map (UInt8.ofNat ((x.toNat : Int).toNat) :: ·) = _
    rw [bytesOf_cu8 l, nat_u8_eq]; rfl
theorem vStr_of {H : Heap} {v : V} {l : List (BitVec 8)} (h : rc 1 H v = some (cu8 l)) : vStr H v = some (.str (l.map UInt8.ofBitVec)) := by
  rcases rc_cases h with ⟨rfl, h2⟩ | ⟨b, o, n, c, bs, rfl, g1, g2, g3, h2⟩
  · have : l = [] := by simpa [cu8] using h2
    subst this; rfl
  · simp only [Nat.mul_one] at g3 h2
    simp only [vStr, readN, g2, Option.bind_some, if_pos g3, ← h2, bytesOf_cu8, Option.map_some]

/-! ### building -/
theorem fill_nil (cells : List V) : fill cells [] = some cells := Eq.trans rfl rfl
theorem fill_cons (cells : List V) (off sz : Nat) (v : V) (rest : List (Nat × Nat × V)) (h1 : v.ok = true) (h2 : v.cells.length = sz) (h3 : off + sz ≤ cells.length) :
    fill cells ((off, sz, v) :: rest) = fill (cells.take off ++ v.cells ++ cells.drop (off + sz)) rest := by simp [fill, h1, h2, h3]
def kBu : Option (List V) → Option V
  | some cs => some (.agg cs)
  | none => none
theorem ev_build' (ρ : Rho) (zs : List V) (parts : List (Nat × Nat × Opd)) : (POp.build zs parts).ev ρ = kBu (fill zs (parts.map fun (o, s, x) => (o, s, ρ x))) := by
  simp only [POp.ev, kBu]; cases fill zs _ <;> rfl
theorem kBu_some (cs : List V) : kBu (some cs) = some (.agg cs) := Eq.trans rfl rfl
def kBs (len esz z : Nat) : Option (List V) → Option (Blk × (Nat → V))
  | some cs => if z = esz then some (.cells .ex cs, fun b => .sl esz b 0 len len) else none
  | none => none
theorem ev_bsl (ρ : Rho) (len esz : Nat) (zs : List V) (parts : List (Nat × Nat × Opd)) : (NOp.bsl len esz zs parts).ev ρ = kBs len esz zs.length (fill (rep len zs) (parts.map fun (o, s, x) => (o, s, ρ x))) := by
  simp only [NOp.ev, kBs]; cases fill (rep len zs) _ <;> rfl
theorem kBs_some (len esz : Nat) (cs : List V) : kBs len esz esz (some cs) = some (.cells .ex cs, fun b => .sl esz b 0 len len) := by simp [kBs]
theorem rep_zero (zs : List V) : rep 0 zs = [] := Eq.trans rfl rfl
theorem rep_succ (n : Nat) (zs : List V) : rep (n + 1) zs = zs ++ rep n zs := by simp [rep, List.replicate_succ]
theorem rep_one (zs : List V) : rep 1 zs = zs := by simp [rep]
theorem rep_two (zs : List V) : rep 2 zs = zs ++ zs := by simp [rep, List.replicate_succ]
theorem rep_three (zs : List V) : rep 3 zs = zs ++ (zs ++ zs) := by simp [rep, List.replicate_succ]
theorem rep_four (zs : List V) : rep 4 zs = zs ++ (zs ++ (zs ++ zs)) := by simp [rep, List.replicate_succ]
def kMk (esz bytes z : Nat) (zs : List V) : Option Nat → Option Nat → Option (Blk × (Nat → V))
  | some l, some c => if l ≤ c ∧ c ≤ 140737488355328 ∧ bytes * c ≤ 140737488355328 ∧ z = esz then some (.cells .ex (rep c zs), fun b => .sl esz b 0 l c) else none
  | _, _ => none
theorem ev_mksl (ρ : Rho) (esz bytes : Nat) (zs : List V) (l c : Opd) : (NOp.mksl esz bytes zs l c).ev ρ = kMk esz bytes zs.length zs (ρ l).nat? (ρ c).nat? := by
  simp only [NOp.ev, kMk]; cases (ρ l).nat? <;> cases (ρ c).nat? <;> rfl
theorem kMk_some (esz bytes : Nat) (zs : List V) (l c : Nat) (h1 : l ≤ c) (h2 : c ≤ 140737488355328) (h3 : bytes * c ≤ 140737488355328) : kMk esz bytes esz zs (some l) (some c) = some (.cells .ex (rep c zs), fun b => .sl esz b 0 l c) := by
  simp [kMk, h1, h2, h3]
def kPk (v : V) (a b : V) : Option V := match v with | .bool true => some a | .bool false => some b | _ => none
theorem ev_pick' (ρ : Rho) (c a b : Opd) : (POp.pick c a b).ev ρ = kPk (ρ c) (ρ a) (ρ b) := Eq.trans rfl rfl
theorem kPk_t (a b : V) : kPk (.bool true) a b = some a := Eq.trans rfl rfl
theorem kPk_f (a b : V) : kPk (.bool false) a b = some b := Eq.trans rfl rfl
theorem part_some (cs : List V) (off n : Nat) (h : off + n ≤ cs.length) : part cs off (some n) = some (.agg ((cs.drop off).take n)) := by simp [part, h]
theorem part_none (cs : List V) (off : Nat) : part cs off none = cs[off]? := Eq.trans rfl rfl

/-! ### comparing -/
theorem eq_int (k : IntKind) (a b : Int) : evEq .int (.int k a) (.int k b) = some (a == b) := by simp [evEq]
theorem eq_u8 (a b : BitVec 8) : evEq .int (u8 a) (u8 b) = some (a == b) := by
  simp only [u8, eq_int, Option.some.injEq]
  rw [Bool.eq_iff_iff]; simp [BitVec.toNat_inj, Int.ofNat_inj]
theorem eq_u32 (a b : BitVec 32) : evEq .int (u32 a) (u32 b) = some (a == b) := by
  simp only [u32, eq_int, Option.some.injEq]
  rw [Bool.eq_iff_iff]; simp [BitVec.toNat_inj, Int.ofNat_inj]
theorem eq_i64 (a b : Int) : evEq .int (i64 a) (i64 b) = some (a == b) := eq_int _ _ _
theorem eq_flat (ts : List ETy) (a b : List V) : evEq (.flat ts) (.agg a) (.agg b) = evEqL ts a b := by simp [evEq]
theorem eqL_nil : evEqL [] [] [] = some true := by simp [evEqL]
def kE2 (b : Bool) : Option Bool → Option Bool
  | some c => some (b && c)
  | none => none
def kE1 (ts : List ETy) (xs ys : List V) : Option Bool → Option Bool
  | some b => kE2 b (evEqL ts xs ys)
  | none => none
theorem eqL_cons (t : ETy) (ts : List ETy) (x y : V) (xs ys : List V) : evEqL (t :: ts) (x :: xs) (y :: ys) = kE1 ts xs ys (evEq t x y) := by
  simp only [evEqL]
  cases evEq t x y with
  | none => rfl
  | some b => simp only [Option.bind_some, kE1, kE2]; cases evEqL ts xs ys <;> rfl
theorem kE1_some (ts : List ETy) (xs ys : List V) (b : Bool) : kE1 ts xs ys (some b) = kE2 b (evEqL ts xs ys) := Eq.trans rfl rfl
theorem kE2_some (b c : Bool) : kE2 b (some c) = some (b && c) := Eq.trans rfl rfl
theorem eqL_cu8 : ∀ (n : Nat) (a b : List (BitVec 8)), a.length = n → b.length = n → evEqL (List.replicate n .int) (cu8 a) (cu8 b) = some (a == b)
  | 0, [], [], _, _ => by simp [cu8, evEqL]
  | n + 1, x :: a, y :: b, ha, hb => by
    simp only [cu8, List.map_cons, List.replicate_succ, eqL_cons, eq_u8, kE1_some]
    have := eqL_cu8 n a b (by simpa using ha) (by simpa using hb)
    simp only [cu8] at this
    rw [this, kE2_some]
    rfl
theorem eq16 (a b : List (BitVec 8)) (ha : a.length = 16) (hb : b.length = 16) : evEqL [.int, .int, .int, .int, .int, .int, .int, .int, .int, .int, .int, .int, .int, .int, .int, .int] (cu8 a) (cu8 b) = some (a == b) := eqL_cu8 16 a b ha hb

/-! ### appends -/
/-- A slice whose block is above n, from its beginning to its end. -/
def Own (n e : Nat) (h : Heap) (v : V) (cs : List V) : Prop :=
  (v = .nils ∧ cs = []) ∨ ∃ b m k, n ≤ b ∧ h[b]? = some (.cells m cs) ∧ (m = .ex ∨ m = .gr e) ∧ cs.length = k * e ∧ v = .sl e b 0 k k

theorem Own.nil (n e : Nat) (h : Heap) : Own n e h .nils [] := .inl ⟨rfl, rfl⟩
theorem Own.mk {n e : Nat} {h : Heap} {b k : Nat} {m : Md} {cs : List V} (h1 : n ≤ b) (h2 : h[b]? = some (.cells m cs)) (h3 : m = .ex ∨ m = .gr e) (h4 : cs.length = k * e) : Own n e h (.sl e b 0 k k) cs :=
  .inr ⟨b, m, k, h1, h2, h3, h4, rfl⟩
theorem Own.rc {n e : Nat} {h : Heap} {v : V} {cs : List V} (o : Own n e h v cs) : rc e h v = some cs := by
  rcases o with ⟨rfl, rfl⟩ | ⟨b, m, k, h1, h2, h3, h4, rfl⟩
  · rfl
  · rw [rc_mk (Nat.le_refl _) (show cellsAt h b = some cs by simp [cellsAt, h2]) (by omega)]
    simp [h4.symm]
theorem Own.app {n e : Nat} {h : Heap} {v : V} {cs : List V} (o : Own n e h v cs) (x : Heap) : Own n e (h ++ x) v cs := by
  rcases o with ⟨rfl, rfl⟩ | ⟨b, m, k, h1, h2, h3, h4, rfl⟩
  · exact .inl ⟨rfl, rfl⟩
  · exact .inr ⟨b, m, k, h1, by rw [List.getElem?_append_left (List.getElem?_eq_some_iff.1 h2).1]; exact h2, h3, h4, rfl⟩
theorem Own.low {n n' e : Nat} {h : Heap} {v : V} {cs : List V} (o : Own n e h v cs) (hn : n' ≤ n) : Own n' e h v cs := by
  rcases o with ⟨rfl, rfl⟩ | ⟨b, m, k, h1, h2, h3, h4, rfl⟩
  · exact .inl ⟨rfl, rfl⟩
  · exact .inr ⟨b, m, k, by omega, h2, h3, h4, rfl⟩

/-- What an append leaves as it was. -/
structure Kept (n : Nat) (v : V) (h h' : Heap) : Prop where
  len : h.length ≤ h'.length
  old : ∀ i, i < h.length → (i < n ∨ i ≠ blkOf v) → h'[i]? = h[i]?

theorem app_own {n e bts : Nat} {h : Heap} {v x : V} {cs ds : List V} (he : 0 < e) (hn : n ≤ h.length) (o : Own n e h v cs) (hx : A.rc e h x = some ds) (h1 : ds.all V.one = true)
    (hb : lenOf v + lenOf x ≤ 17592186044416) (hb2 : (lenOf v + lenOf x) * bts ≤ 17592186044416) :
    ∃ v' h', evApp e bts h v x = some (v', h') ∧ Own n e h' v' (cs ++ ds) ∧ Kept n v h h' ∧ lenOf v' = lenOf v + lenOf x := by
  have hs := src_of hx
  have hl := rc_len hx
  unfold evApp
  rw [hs]
  simp only [Option.bind_some, h1, if_true]
  rcases o with ⟨rfl, rfl⟩ | ⟨b, m, k, a1, a2, a3, a4, rfl⟩
  · simp only [lenOf_nils, Nat.zero_add] at hb hb2
    by_cases h0 : lenOf x = 0
    · have : ds = [] := by rw [h0] at hl; simpa using hl
      subst this
      exact ⟨.nils, h, by simp [h0], .inl ⟨rfl, rfl⟩, ⟨Nat.le_refl _, fun _ _ _ => rfl⟩, by simp [lenOf_nils, lenOf_sl, h0]⟩
    · refine ⟨_, _, by rw [if_neg h0, if_pos ⟨hb, hb2⟩], .inr ⟨h.length, .gr e, lenOf x, hn, by simp, .inr rfl, by simpa using hl, rfl⟩, ⟨by simp, fun i hi _ => List.getElem?_append_left hi⟩, by simp [lenOf_nils, lenOf_sl]⟩
  · simp only [lenOf_sl] at hb hb2
    simp only [if_true]
    by_cases h0 : lenOf x = 0
    · have : ds = [] := by rw [h0] at hl; simpa using hl
      subst this
      exact ⟨_, h, by rw [if_pos ⟨h0, Nat.le_refl _⟩], .inr ⟨b, m, k, a1, by simpa using a2, a3, by simpa using a4, rfl⟩, ⟨Nat.le_refl _, fun _ _ _ => rfl⟩, by simp [lenOf_nils, lenOf_sl, h0]⟩
    · rw [if_neg (by omega), if_neg (by omega), if_pos ⟨Nat.le_refl _, hb, hb2⟩]
      have hr : readN h b 0 (k * e) = some cs := by
        simp only [readN, cellsAt, a2, Option.bind_some]
        rw [if_pos (by omega)]
        simp [a4.symm]
      rw [hr]
      simp only [Option.bind_some, a2]
      have hlen : (cs ++ ds).length = (k + lenOf x) * e := by rw [List.length_append, a4, hl, Nat.add_mul]
      have hbl : b < h.length := (List.getElem?_eq_some_iff.1 a2).1
      rcases a3 with rfl | rfl
      · exact ⟨_, _, rfl, .inr ⟨h.length, .gr e, _, hn, by simp, .inr rfl, hlen, rfl⟩, ⟨by simp, fun i hi _ => List.getElem?_append_left hi⟩, by simp [lenOf_nils, lenOf_sl]⟩
      · refine ⟨_, _, rfl, .inr ⟨h.length, .gr e, _, hn, by simp, .inr rfl, hlen, rfl⟩, ⟨by simp, fun i hi hne => ?_⟩, by simp [lenOf_sl]⟩
        have : i ≠ b := by simp only [blkOf] at hne; omega
        rw [List.getElem?_append_left (by simpa using hi), List.getElem?_set_ne (by omega)]

theorem Kept.take {n : Nat} {v : V} {h h' : Heap} (k : Kept n v h h') (hn : n ≤ h.length) : h' = h.take n ++ h'.drop n := by
  have : h'.take n = h.take n := by
    apply List.ext_getElem?
    intro i
    rw [List.getElem?_take, List.getElem?_take]
    split
    · exact k.old i (by omega) (.inl ‹_›)
    · rfl
  rw [← this, List.take_append_drop]
theorem Kept.rc {n e : Nat} {v w : V} {h h' : Heap} {cs : List V} (k : Kept n v h h') (hw : A.rc e h w = some cs) (hne : blkOf w < n ∨ blkOf w ≠ blkOf v) : A.rc e h' w = some cs := by
  rcases rc_cases hw with ⟨rfl, rfl⟩ | ⟨b, o, m, c, bs, rfl, h1, h2, h3, rfl⟩
  · rfl
  · refine rc_mk h1 ?_ h3
    rw [← h2]
    simp only [cellsAt, k.old b (cellsAt_lt h2) hne]

/-- The same where what is above n is not of interest. -/
theorem app_own' {n e bts : Nat} {h : Heap} {v x : V} {cs ds : List V} (he : 0 < e) (hn : n ≤ h.length) (o : Own n e h v cs) (hx : A.rc e h x = some ds) (h1 : ds.all V.one = true)
    (hb : lenOf v + lenOf x ≤ 17592186044416) (hb2 : (lenOf v + lenOf x) * bts ≤ 17592186044416) (h0 : Heap) (ht : h.take n = h0) :
    ∃ v' g, evApp e bts h v x = some (v', h0 ++ g) ∧ Own n e (h0 ++ g) v' (cs ++ ds) ∧ lenOf v' = lenOf v + lenOf x := by
  obtain ⟨v', h', a, b, c, d⟩ := app_own he hn o hx h1 hb hb2
  have := c.take hn
  rw [ht] at this
  refine ⟨v', h'.drop n, ?_, ?_, d⟩
  · rw [a, ← this]
  · rw [← this]; exact b

theorem Own.len {n e : Nat} {h : Heap} {v : V} {cs : List V} (o : Own n e h v cs) : cs.length = lenOf v * e := rc_len o.rc
theorem Own.rcn {n e : Nat} {h : Heap} {v : V} {cs : List V} (o : Own n e h v cs) : A.rc e h v = some cs := o.rc

/-! ### loops -/
/-- A loop by an invariant and a measure. -/
theorem loop_any {T : Tbl} {L : List Nat} {c : ACode} {d : List Dfr} {u : Option (Option V)} (I : Nat → List V → Heap → Prop) (Q : Ex → Fr → Heap → Prop)
    (hstep : ∀ i vs h, I i vs h → (∃ j vs' h', j < i ∧ Nxt (execC (run T) c ⟨L.zip vs, d, u⟩ h) L vs' d u h' ∧ I j vs' h') ∨
      (∃ e fr' h', e ≠ .norm ∧ execC (run T) c ⟨L.zip vs, d, u⟩ h = some (e, fr', h') ∧ Q e fr' h')) :
    ∀ i vs h, I i vs h → ∃ e fr' h', (∀ t, kK L t = L.zip vs → execC (run T) (.loop (.seq (.keep L) c)) ⟨t, d, u⟩ h = some (e, fr', h')) ∧ e ≠ .norm ∧ Q e fr' h' := by
  intro i
  induction i using Nat.strongRecOn with
  | ind i ih =>
    intro vs h hi
    rcases hstep i vs h hi with ⟨j, vs', h', hj, ⟨t', h1, h2⟩, hI⟩ | ⟨e, fr', h', hne, h1, hq⟩
    · obtain ⟨e, fr', h'', hx, hne, hq⟩ := ih j hj vs' h' hI
      refine ⟨e, fr', h'', fun t ht => ?_, hne, hq⟩
      simp only [execC, Option.bind_some]
      rw [show (L.map fun i => (i, A.get t i)) = L.zip vs from ht, h1]
      simp only [Option.bind_some]
      rw [run_code]
      exact hx t' h2
    · refine ⟨e, fr', h', fun t ht => ?_, hne, hq⟩
      simp only [execC, Option.bind_some]
      rw [show (L.map fun i => (i, A.get t i)) = L.zip vs from ht, h1]
      cases e <;> first | rfl | exact absurd rfl hne

/-- A loop that counts up to n. -/
theorem loop_n {T : Tbl} {L : List Nat} {c : ACode} {d : List Dfr} {u : Option (Option V)} (I : Nat → List V → Heap → Prop) (Q : Ex → Fr → Heap → Prop) (n : Nat)
    (hstep : ∀ i vs h, i < n → I i vs h → (∃ vs' h', Nxt (execC (run T) c ⟨L.zip vs, d, u⟩ h) L vs' d u h' ∧ I (i + 1) vs' h') ∨
      (∃ e fr' h', e ≠ .norm ∧ execC (run T) c ⟨L.zip vs, d, u⟩ h = some (e, fr', h') ∧ Q e fr' h'))
    (hend : ∀ vs h, I n vs h → ∃ e fr' h', e ≠ .norm ∧ execC (run T) c ⟨L.zip vs, d, u⟩ h = some (e, fr', h') ∧ Q e fr' h')
    (vs : List V) (h : Heap) (h0 : I 0 vs h) : ∃ e fr' h', (∀ t, kK L t = L.zip vs → execC (run T) (.loop (.seq (.keep L) c)) ⟨t, d, u⟩ h = some (e, fr', h')) ∧ e ≠ .norm ∧ Q e fr' h' := by
  refine loop_any (T := T) (L := L) (c := c) (d := d) (u := u) (fun m vs h => m ≤ n ∧ I (n - m) vs h) Q ?_ n vs h ⟨Nat.le_refl _, by simpa using h0⟩
  rintro m vs h ⟨hm, hI⟩
  by_cases h0 : m = 0
  · subst h0
    right
    exact hend vs h (by simpa using hI)
  · rcases hstep (n - m) vs h (by omega) hI with ⟨vs', h', a, b⟩ | hx
    · left
      exact ⟨m - 1, vs', h', by omega, a, by omega, by rw [show n - (m - 1) = n - m + 1 by omega]; exact b⟩
    · right; exact hx

theorem res_cellN (t : Env) (h : Heap) (a n : Nat) : resV t h [.cell a (some n)] = vLdN h n (A.get t a) := by
  simp only [resV, resAll, resOf, vLdN]
  cases A.get t a <;> try rfl
  rename_i b o
  dsimp only
  cases readN h b o n <;> rfl
def kT2 (v : V) : Option V → Option V
  | some x => some (.tup [x, v])
  | none => none
theorem res_celln (t : Env) (h : Heap) (a n m : Nat) : resV t h [.cell a (some n), .t m] = kT2 (A.get t m) (vLdN h n (A.get t a)) := by
  simp only [resV, resAll, resOf, vLdN, kT2]
  cases A.get t a <;> try rfl
  rename_i b o
  dsimp only
  cases readN h b o n <;> rfl
theorem kT2_some (v x : V) : kT2 v (some x) = some (.tup [x, v]) := Eq.trans rfl rfl
/-- A loop up to its round n. -/
theorem loop_to {T : Tbl} {L : List Nat} {c : ACode} {d : List Dfr} {u : Option (Option V)} (vs : Nat → List V) (hp : Nat → Heap) (n : Nat)
    (hstep : ∀ i, i < n → Nxt (execC (run T) c ⟨L.zip (vs i), d, u⟩ (hp i)) L (vs (i + 1)) d u (hp (i + 1))) :
    ∀ t, kK L t = L.zip (vs 0) → execC (run T) (.loop (.seq (.keep L) c)) ⟨t, d, u⟩ (hp 0) = kLp T (execC (run T) c ⟨L.zip (vs n), d, u⟩ (hp n)) (.seq (.keep L) c) := by
  have one : ∀ i t, kK L t = L.zip (vs i) → execC (run T) (.loop (.seq (.keep L) c)) ⟨t, d, u⟩ (hp i) = kLp T (execC (run T) c ⟨L.zip (vs i), d, u⟩ (hp i)) (.seq (.keep L) c) := by
    intro i t ht
    rw [c_loop]
    simp only [execC, Option.bind_some]
    rw [show (L.map fun i => (i, A.get t i)) = L.zip (vs i) from ht]
  have key : ∀ m i, i + m = n → ∀ t, kK L t = L.zip (vs i) → execC (run T) (.loop (.seq (.keep L) c)) ⟨t, d, u⟩ (hp i) = kLp T (execC (run T) c ⟨L.zip (vs n), d, u⟩ (hp n)) (.seq (.keep L) c) := by
    intro m
    induction m with
    | zero =>
      intro i hi t ht
      have : i = n := by omega
      subst this
      exact one i t ht
    | succ m ih =>
      intro i hi t ht
      obtain ⟨t', h1, h2⟩ := hstep i (by omega)
      rw [one i t ht, h1, kLp_norm]
      exact ih (i + 1) (by omega) t' h2
  exact key n 0 (by omega)

theorem loop_to2 {T : Tbl} {L : List Nat} {c : ACode} {d : List Dfr} {u : Option (Option V)} (vs : Nat → List V) (hp : Nat → Heap) (n : Nat)
    (hstep : ∀ i, i < n → Nxt (execC (run T) c ⟨L.zip (vs i), d, u⟩ (hp i)) L (vs (i + 1)) d u (hp (i + 1))) {a b : List (Nat × V)} {h h' : Heap} (e1 : L.zip (vs 0) = a) (e2 : hp 0 = h) (e3 : L.zip (vs n) = b) (e4 : hp n = h') :
    ∀ t, kK L t = a → execC (run T) (.loop (.seq (.keep L) c)) ⟨t, d, u⟩ h = kLp T (execC (run T) c ⟨b, d, u⟩ h') (.seq (.keep L) c) := by
  subst e1 e2 e3 e4
  exact loop_to vs hp n hstep

theorem rc_new (e : Nat) (h : Heap) (m : Md) (cs : List V) (k : Nat) (hk : cs.length = k * e) : rc e (h ++ [.cells m cs]) (.sl e h.length 0 k k) = some cs := by
  rw [rc_mk (Nat.le_refl _) (show cellsAt (h ++ [.cells m cs]) h.length = some cs by simp [cellsAt]) (by omega)]
  simp [hk.symm]
theorem rc_newAt (e : Nat) (h : Heap) (m : Md) (cs : List V) (k b : Nat) (hk : cs.length = k * e) (hb : h[b]? = some (.cells m cs)) : rc e h (.sl e b 0 k k) = some cs := by
  rw [rc_mk (Nat.le_refl _) (show cellsAt h b = some cs by simp [cellsAt, hb]) (by omega)]
  simp [hk.symm]

/-- A loop up to a round where it stops. -/
theorem loop_st {T : Tbl} {L : List Nat} {c : ACode} {d : List Dfr} {u : Option (Option V)} (I : Nat → List V → Heap → Prop) (P : Nat → List V → Heap → Prop)
    (hstep : ∀ i vs h, I i vs h → P i vs h ∨ ∃ j vs' h', j < i ∧ Nxt (execC (run T) c ⟨L.zip vs, d, u⟩ h) L vs' d u h' ∧ I j vs' h') :
    ∀ i vs h, I i vs h → ∃ j vs' h', I j vs' h' ∧ P j vs' h' ∧ ∀ t, kK L t = L.zip vs → execC (run T) (.loop (.seq (.keep L) c)) ⟨t, d, u⟩ h = kLp T (execC (run T) c ⟨L.zip vs', d, u⟩ h') (.seq (.keep L) c) := by
  have one : ∀ vs h t, kK L t = L.zip vs → execC (run T) (.loop (.seq (.keep L) c)) ⟨t, d, u⟩ h = kLp T (execC (run T) c ⟨L.zip vs, d, u⟩ h) (.seq (.keep L) c) := by
    intro vs h t ht
    rw [c_loop]
    simp only [execC, Option.bind_some]
    rw [show (L.map fun i => (i, A.get t i)) = L.zip vs from ht]
  intro i
  induction i using Nat.strongRecOn with
  | ind i ih =>
    intro vs h hi
    rcases hstep i vs h hi with hp | ⟨j, vs', h', hj, ⟨t', h1, h2⟩, hI⟩
    · exact ⟨i, vs, h, hi, hp, fun t ht => one vs h t ht⟩
    · obtain ⟨j', vs'', h'', a, b, hx⟩ := ih j hj vs' h' hI
      refine ⟨j', vs'', h'', a, b, fun t ht => ?_⟩
      rw [one vs h t ht, h1, kLp_norm]
      exact hx t' h2

/-- The same with a counter that goes up. -/
theorem loop_up {T : Tbl} {L : List Nat} {c : ACode} {d : List Dfr} {u : Option (Option V)} (I : Nat → List V → Heap → Prop) (n : Nat)
    (hstep : ∀ i vs h, i < n → I i vs h → ∃ vs' h', Nxt (execC (run T) c ⟨L.zip vs, d, u⟩ h) L vs' d u h' ∧ I (i + 1) vs' h')
    (vs : List V) (h : Heap) (h0 : I 0 vs h) : ∃ vs' h', I n vs' h' ∧ ∀ t, kK L t = L.zip vs → execC (run T) (.loop (.seq (.keep L) c)) ⟨t, d, u⟩ h = kLp T (execC (run T) c ⟨L.zip vs', d, u⟩ h') (.seq (.keep L) c) := by
  obtain ⟨j, vs', h', a, b, hx⟩ := loop_st (T := T) (L := L) (c := c) (d := d) (u := u) (fun m vs h => m ≤ n ∧ I (n - m) vs h) (fun m _ _ => m = 0) (by
    rintro m vs h ⟨hm, hI⟩
    by_cases h0 : m = 0
    · exact .inl h0
    · obtain ⟨vs', h', a, b⟩ := hstep (n - m) vs h (by omega) hI
      exact .inr ⟨m - 1, vs', h', by omega, a, by omega, by rw [show n - (m - 1) = n - m + 1 by omega]; exact b⟩) n vs h ⟨Nat.le_refl _, by simpa using h0⟩
  subst b
  exact ⟨vs', h', by simpa using a.2, hx⟩
theorem cast0 : ((0 : Nat) : Int) = 0 := Eq.trans rfl rfl
theorem nat_i64c (n : Int) (h : 0 ≤ n) : (i64 n).nat? = some n.toNat := nat_i64 n h
theorem ok_tup_f : True := trivial
/-- The common equations of a run. -/
theorem runEqs : type_of% (And.intro (And.intro (And.intro (And.intro (And.intro (And.intro (And.intro (@frame0_eq) (And.intro (@ops_nil) (@ops_p))) (And.intro (@ops_r) (And.intro (@ops_n) (@ops_l)))) (And.intro (And.intro (@ops_call) (And.intro (@ops_dfr) (@ops_rcv0))) (And.intro (And.intro (@kP_some) (@kN_some)) (And.intro (@kL_some) (@kC_ret))))) (And.intro (And.intro (And.intro (@kC_pan) (And.intro (@k3_some) (@callC_st))) (And.intro (And.intro (@callC_dyn) (@callV_fn)) (And.intro (@c_skip) (@c_reg)))) (And.intro (And.intro (@c_drw) (And.intro (@drw_nil) (@drw_p))) (And.intro (And.intro (@drw_r0) (@drw_n)) (And.intro (@drw_l) (@drw_call)))))) (And.intro (And.intro (And.intro (And.intro (@kDP_some) (And.intro (@kDN_some) (@kDL_some))) (And.intro (And.intro (@kDC_ret) (@kDC_pan)) (And.intro (@c_seq) (@c_cond)))) (And.intro (And.intro (@c_blk) (And.intro (@c_exit) (@c_ret))) (And.intro (And.intro (@c_keep) (@kK_nil)) (And.intro (@kK_cons) (@kS_norm))))) (And.intro (And.intro (And.intro (@kS_exit) (And.intro (@kS_ret) (@kS_pan))) (And.intro (And.intro (@kQ_true) (@kQ_false)) (And.intro (@kB_norm) (@kB_hit)))) (And.intro (And.intro (@kB_miss) (And.intro (@kB_ret) (@kB_pan))) (And.intro (And.intro (@kF_norm) (@kF_ret)) (And.intro (@kF_pan) (@kR_some))))))) (And.intro (And.intro (And.intro (And.intro (And.intro (@leave_nil) (And.intro (@leave_pan) (@res_one))) (And.intro (And.intro (@res_two) (@res_three)) (And.intro (@res_none) (@put_some)))) (And.intro (And.intro (@put_none) (And.intro (@ev_t) (@ev_c))) (And.intro (And.intro (@ev_f) (@get_hit)) (And.intro (@get_miss) (@ev_mv))))) (And.intro (And.intro (And.intro (@ev_bin) (And.intro (@ev_eqv) (@eqR_f))) (And.intro (And.intro (@eqR_t) (@ev_un)) (And.intro (@ev_conv) (@ev_mkif)))) (And.intro (And.intro (@ev_mkfn) (And.intro (@ev_fieldA) (@vFA_ptr))) (And.intro (And.intro (@ev_field) (@vF_agg)) (And.intro (@ev_idxA) (@vIA_ptr)))))) (And.intro (And.intro (And.intro (And.intro (@ev_idxS) (And.intro (@vIS_sl) (@ev_idx))) (And.intro (And.intro (@ev_ext) (@vX_tup)) (And.intro (@ev_lenS) (@vLen_sl)))) (And.intro (And.intro (@vLen_nils) (And.intro (@ev_lenK) (@ev_nilck))) (And.intro (And.intro (@vNil_ptr) (@vNil_fn)) (And.intro (@vNil_y) (@ev_ld))))) (And.intro (And.intro (And.intro (@ev_ldN) (And.intro (@ev_st) (@ev_stN))) (And.intro (And.intro (@ev_app) (@ev_cpy)) (And.intro (@ev_b2s) (@ev_alloc)))) (And.intro (And.intro (@ev_box) (And.intro (@ok_u8) (@ok_u32))) (And.intro (And.intro (@ok_u64) (@ok_i64)) (And.intro (@ok_agg) (@ok_sl)))))))) (And.intro (And.intro (And.intro (And.intro (And.intro (And.intro (@ok_ptr) (And.intro (@ok_bool) (@ok_nils))) (And.intro (And.intro (@ok_fn) (@cells_u8)) (And.intro (@cells_u32) (@cells_u64)))) (And.intro (And.intro (@cells_i64) (And.intro (@cells_agg) (@cells_sl))) (And.intro (And.intro (@cells_ptr) (@cells_bool)) (And.intro (@cells_nils) (@cells_fn))))) (And.intro (And.intro (And.intro (@one_u8) (And.intro (@one_u32) (@one_u64))) (And.intro (And.intro (@one_i64) (@kApp_some)) (And.intro (@kCons_some) (@wr_app)))) (And.intro (And.intro (@wr_app0) (And.intro (@wr_succ) (@wr_one))) (And.intro (And.intro (@wr_all) (@at_app)) (And.intro (@at_app0) (@at_succ)))))) (And.intro (And.intro (And.intro (And.intro (@at_zero) (And.intro (@vLd_ptr) (@kAt_some))) (And.intro (And.intro (@vLdN_ptr) (@kAg_some)) (And.intro (@kAg_all) (@kW_some)))) (And.intro (And.intro (@vSt_ptr) (And.intro (@vStN_ptr) (@ev_slArr))) (And.intro (And.intro (@ev_slSl) (@vArr_eq)) (And.intro (@vSl_eq) (@bounds_eq))))) (And.intro (And.intro (And.intro (@on_some) (And.intro (@on_none) (@bd_some))) (And.intro (And.intro (@kSl_some) (@kSl_end)) (And.intro (@kSl_zero) (@readN_eq)))) (And.intro (And.intro (@kRd_some) (And.intro (@cpy_sl) (@kCp_some))) (And.intro (And.intro (@kCp2_some) (@nat_i64')) (And.intro (@nat_u8) (@nat_u32))))))) (And.intro (And.intro (And.intro (And.intro (And.intro (@nat_u64) (And.intro (@nat_i64) (@drw_r))) (And.intro (And.intro (@kDR_some) (@same_nil)) (And.intro (@same_cons) (@sm1_some)))) (And.intro (And.intro (@sm2_some) (And.intro (@kD2_true) (@ops_g1))) (And.intro (And.intro (@ops_g0) (@drw_g1)) (And.intro (@drw_g0) (@ev_build'))))) (And.intro (And.intro (And.intro (@kBu_some) (And.intro (@ev_bsl) (@kBs_some))) (And.intro (And.intro (@rep_zero) (@rep_one)) (And.intro (@rep_two) (@rep_three)))) (And.intro (And.intro (@rep_four) (And.intro (@ev_mksl) (@kMk_some))) (And.intro (And.intro (@fill_nil) (@fill_cons)) (And.intro (@ev_pick') (@kPk_t)))))) (And.intro (And.intro (And.intro (And.intro (@kPk_f) (And.intro (@part_some) (@part_none))) (And.intro (And.intro (@eq_u8) (@eq_u32)) (And.intro (@eq_i64) (@eq_flat)))) (And.intro (And.intro (@eqL_nil) (And.intro (@eqL_cons) (@kE1_some))) (And.intro (And.intro (@kE2_some) (@res_cellN)) (And.intro (@kLp_norm) (@kLp_exit))))) (And.intro (And.intro (And.intro (@kLp_ret) (And.intro (@kLp_pan) (@cast0))) (And.intro (And.intro (@res_celln) (@kT2_some)) (And.intro (@lss_i64) (@leq_i64)))) (And.intro (And.intro (@gtr_i64) (And.intro (@geq_i64) (@eql_i64))) (And.intro (And.intro (@neq_i64) (@add_i64)) (And.intro (@sub_i64) (@mul_i64))))))))) := And.intro (And.intro (And.intro (And.intro (And.intro (And.intro (And.intro (@frame0_eq) (And.intro (@ops_nil) (@ops_p))) (And.intro (@ops_r) (And.intro (@ops_n) (@ops_l)))) (And.intro (And.intro (@ops_call) (And.intro (@ops_dfr) (@ops_rcv0))) (And.intro (And.intro (@kP_some) (@kN_some)) (And.intro (@kL_some) (@kC_ret))))) (And.intro (And.intro (And.intro (@kC_pan) (And.intro (@k3_some) (@callC_st))) (And.intro (And.intro (@callC_dyn) (@callV_fn)) (And.intro (@c_skip) (@c_reg)))) (And.intro (And.intro (@c_drw) (And.intro (@drw_nil) (@drw_p))) (And.intro (And.intro (@drw_r0) (@drw_n)) (And.intro (@drw_l) (@drw_call)))))) (And.intro (And.intro (And.intro (And.intro (@kDP_some) (And.intro (@kDN_some) (@kDL_some))) (And.intro (And.intro (@kDC_ret) (@kDC_pan)) (And.intro (@c_seq) (@c_cond)))) (And.intro (And.intro (@c_blk) (And.intro (@c_exit) (@c_ret))) (And.intro (And.intro (@c_keep) (@kK_nil)) (And.intro (@kK_cons) (@kS_norm))))) (And.intro (And.intro (And.intro (@kS_exit) (And.intro (@kS_ret) (@kS_pan))) (And.intro (And.intro (@kQ_true) (@kQ_false)) (And.intro (@kB_norm) (@kB_hit)))) (And.intro (And.intro (@kB_miss) (And.intro (@kB_ret) (@kB_pan))) (And.intro (And.intro (@kF_norm) (@kF_ret)) (And.intro (@kF_pan) (@kR_some))))))) (And.intro (And.intro (And.intro (And.intro (And.intro (@leave_nil) (And.intro (@leave_pan) (@res_one))) (And.intro (And.intro (@res_two) (@res_three)) (And.intro (@res_none) (@put_some)))) (And.intro (And.intro (@put_none) (And.intro (@ev_t) (@ev_c))) (And.intro (And.intro (@ev_f) (@get_hit)) (And.intro (@get_miss) (@ev_mv))))) (And.intro (And.intro (And.intro (@ev_bin) (And.intro (@ev_eqv) (@eqR_f))) (And.intro (And.intro (@eqR_t) (@ev_un)) (And.intro (@ev_conv) (@ev_mkif)))) (And.intro (And.intro (@ev_mkfn) (And.intro (@ev_fieldA) (@vFA_ptr))) (And.intro (And.intro (@ev_field) (@vF_agg)) (And.intro (@ev_idxA) (@vIA_ptr)))))) (And.intro (And.intro (And.intro (And.intro (@ev_idxS) (And.intro (@vIS_sl) (@ev_idx))) (And.intro (And.intro (@ev_ext) (@vX_tup)) (And.intro (@ev_lenS) (@vLen_sl)))) (And.intro (And.intro (@vLen_nils) (And.intro (@ev_lenK) (@ev_nilck))) (And.intro (And.intro (@vNil_ptr) (@vNil_fn)) (And.intro (@vNil_y) (@ev_ld))))) (And.intro (And.intro (And.intro (@ev_ldN) (And.intro (@ev_st) (@ev_stN))) (And.intro (And.intro (@ev_app) (@ev_cpy)) (And.intro (@ev_b2s) (@ev_alloc)))) (And.intro (And.intro (@ev_box) (And.intro (@ok_u8) (@ok_u32))) (And.intro (And.intro (@ok_u64) (@ok_i64)) (And.intro (@ok_agg) (@ok_sl)))))))) (And.intro (And.intro (And.intro (And.intro (And.intro (And.intro (@ok_ptr) (And.intro (@ok_bool) (@ok_nils))) (And.intro (And.intro (@ok_fn) (@cells_u8)) (And.intro (@cells_u32) (@cells_u64)))) (And.intro (And.intro (@cells_i64) (And.intro (@cells_agg) (@cells_sl))) (And.intro (And.intro (@cells_ptr) (@cells_bool)) (And.intro (@cells_nils) (@cells_fn))))) (And.intro (And.intro (And.intro (@one_u8) (And.intro (@one_u32) (@one_u64))) (And.intro (And.intro (@one_i64) (@kApp_some)) (And.intro (@kCons_some) (@wr_app)))) (And.intro (And.intro (@wr_app0) (And.intro (@wr_succ) (@wr_one))) (And.intro (And.intro (@wr_all) (@at_app)) (And.intro (@at_app0) (@at_succ)))))) (And.intro (And.intro (And.intro (And.intro (@at_zero) (And.intro (@vLd_ptr) (@kAt_some))) (And.intro (And.intro (@vLdN_ptr) (@kAg_some)) (And.intro (@kAg_all) (@kW_some)))) (And.intro (And.intro (@vSt_ptr) (And.intro (@vStN_ptr) (@ev_slArr))) (And.intro (And.intro (@ev_slSl) (@vArr_eq)) (And.intro (@vSl_eq) (@bounds_eq))))) (And.intro (And.intro (And.intro (@on_some) (And.intro (@on_none) (@bd_some))) (And.intro (And.intro (@kSl_some) (@kSl_end)) (And.intro (@kSl_zero) (@readN_eq)))) (And.intro (And.intro (@kRd_some) (And.intro (@cpy_sl) (@kCp_some))) (And.intro (And.intro (@kCp2_some) (@nat_i64')) (And.intro (@nat_u8) (@nat_u32))))))) (And.intro (And.intro (And.intro (And.intro (And.intro (@nat_u64) (And.intro (@nat_i64) (@drw_r))) (And.intro (And.intro (@kDR_some) (@same_nil)) (And.intro (@same_cons) (@sm1_some)))) (And.intro (And.intro (@sm2_some) (And.intro (@kD2_true) (@ops_g1))) (And.intro (And.intro (@ops_g0) (@drw_g1)) (And.intro (@drw_g0) (@ev_build'))))) (And.intro (And.intro (And.intro (@kBu_some) (And.intro (@ev_bsl) (@kBs_some))) (And.intro (And.intro (@rep_zero) (@rep_one)) (And.intro (@rep_two) (@rep_three)))) (And.intro (And.intro (@rep_four) (And.intro (@ev_mksl) (@kMk_some))) (And.intro (And.intro (@fill_nil) (@fill_cons)) (And.intro (@ev_pick') (@kPk_t)))))) (And.intro (And.intro (And.intro (And.intro (@kPk_f) (And.intro (@part_some) (@part_none))) (And.intro (And.intro (@eq_u8) (@eq_u32)) (And.intro (@eq_i64) (@eq_flat)))) (And.intro (And.intro (@eqL_nil) (And.intro (@eqL_cons) (@kE1_some))) (And.intro (And.intro (@kE2_some) (@res_cellN)) (And.intro (@kLp_norm) (@kLp_exit))))) (And.intro (And.intro (And.intro (@kLp_ret) (And.intro (@kLp_pan) (@cast0))) (And.intro (And.intro (@res_celln) (@kT2_some)) (And.intro (@lss_i64) (@leq_i64)))) (And.intro (And.intro (@gtr_i64) (And.intro (@geq_i64) (@eql_i64))) (And.intro (And.intro (@neq_i64) (@add_i64)) (And.intro (@sub_i64) (@mul_i64))))))))
end Go.A

/- Runs of A on open values: loops over functions, deferred calls, panics. -/
set_option linter.unusedVariables false
set_option linter.unusedSimpArgs false
set_option linter.unusedSectionVars false
namespace Go.A

theorem own_swap {n e : Nat} {P P' g : Heap} {v : V} {cs : List V} (o : Own n e (P ++ g) v cs) (h1 : P.length = n) (h2 : P'.length = n) : Own n e (P' ++ g) v cs := by
  rcases o with ⟨rfl, rfl⟩ | ⟨b, m, k, a1, a2, a3, a4, rfl⟩
  · exact .inl ⟨rfl, rfl⟩
  · refine .inr ⟨b, m, k, a1, ?_, a3, a4, rfl⟩
    rw [List.getElem?_append_right (by omega)] at a2 ⊢
    rw [h1] at a2
    rw [h2]
    exact a2
theorem own_swap1 {e : Nat} {H g : Heap} {A A' : Blk} {v : V} {cs : List V} (o : Own (H.length + 1) e (H ++ A :: g) v cs) : Own (H.length + 1) e (H ++ A' :: g) v cs := by
  have := own_swap (P := H ++ [A]) (P' := H ++ [A']) (g := g) (by simpa using o) (by simp) (by simp)
  simpa using this
theorem own_app1 {e : Nat} {H g x : Heap} {A : Blk} {v : V} {cs : List V} {n : Nat} (o : Own n e (H ++ A :: g) v cs) : Own n e (H ++ A :: (g ++ x)) v cs := by
  have := o.app x
  simpa using this
theorem own_swap2 {e : Nat} {H g : Heap} {A A' B B' : Blk} {v : V} {cs : List V} (o : Own (H.length + 2) e (H ++ A :: B :: g) v cs) : Own (H.length + 2) e (H ++ A' :: B' :: g) v cs := by
  have := own_swap (P := H ++ [A, B]) (P' := H ++ [A', B']) (g := g) (by simpa using o) (by simp) (by simp)
  simpa using this

theorem c_rngf (r : Rec) (f : Opd) (ps : List Nat) (a b : ACode) (fr : Fr) (h : Heap) : execC r (.rngf f ps a b) fr h = execRng r (f.ev fr.t) ps a b fr h := Eq.trans rfl rfl
theorem rngf_ok {r : Rec} {f v : V} {ps : List Nat} {asg body : ACode} {t : Env} {d : List Dfr} {u : Option V} {h h2 : Heap} {e p a b}
    (hc : callV r f [.fn (.yield (h.length + 1)) [] []] (h ++ [.dfl, .loop 0 none t ps asg body]) = some (.ret v, h2)) (hl : h2[h.length + 1]? = some (.loop 0 none e p a b)) :
    execRng r f ps asg body ⟨t, d, some u⟩ h = some (.norm, ⟨t, .coll h.length :: d, some u⟩, h2.set (h.length + 1) (.loop 3 none e p a b)) := by
  simp [execRng, hc, hl]
theorem yld_ok {T : Tbl} {l : Nat} {args : List V} {h h2 : Heap} {env e1 t1 t2 : Env} {ps : List Nat} {asg body : ACode} {u2 : Option (Option V)}
    (hl : h[l]? = some (.loop 0 none env ps asg body)) (hz : zipArgs ps args env = some e1)
    (ha : execC (run T) asg ⟨e1, [], none⟩ h = some (.norm, ⟨t1, [], none⟩, h))
    (hb : execC (run T) body ⟨t1, [], none⟩ (h.set l (.loop 1 none env ps asg body)) = some (.norm, ⟨t2, [], u2⟩, h2))
    (hl2 : h2[l]? = some (.loop 1 none env ps asg body)) :
    callV (run T) (.fn (.yield l) [] []) args h = some (.ret (.bool true), h2.set l (.loop 0 none env ps asg body)) := by
  simp [callV, hl, hz, run_code, ha, hb, hl2]
theorem leave_coll (r : Rec) (rs : List ARes) (e : Env) (u : Option V) (b : Nat) (ds : List Dfr) (m : Option V) (h : Heap) (hb : h[b]? = some .dfl) : leave r rs e u (.coll b :: ds) m h = leave r rs e u ds m (h.set b .dead) := by
  simp [leave, hb]
theorem blk_get (H l : Heap) (k : Nat) : (H ++ l)[H.length + k]? = l[k]? := at_new H l k
theorem blk_get0 (H l : Heap) : (H ++ l)[H.length]? = l[0]? := at_new H l 0
theorem blk_set (H l : Heap) (k : Nat) (b : Blk) : (H ++ l).set (H.length + k) b = H ++ l.set k b := set_new H l k b
theorem blk_set0 (H l : Heap) (b : Blk) : (H ++ l).set H.length b = H ++ l.set 0 b := set_new H l 0 b
def kPn (v : V) (t : Env) (d : List Dfr) (u : Option (Option V)) (h : Heap) : Option (Ex × Fr × Heap) := match v with | .ifc ty x => some (.pan (.ifc ty x), ⟨t, d, u⟩, h) | _ => none
theorem ops_pan' (r : Rec) (dd : Option Nat) (x : Opd) (os : List AOper) (t : Env) (d : List Dfr) (u : Option (Option V)) (h : Heap) :
    stepOps r (⟨dd, .pan x, none⟩ :: os) ⟨t, d, u⟩ h = kPn (Opd.ev t x) t d u h := by
  simp only [stepOps, stepOp, wanted, Option.bind_some, if_true, kPn]
  cases Opd.ev t x <;> rfl
theorem kPn_ifc (ty : Nat) (v : V) (t : Env) (d : List Dfr) (u : Option (Option V)) (h : Heap) : kPn (.ifc ty v) t d u h = some (.pan (.ifc ty v), ⟨t, d, u⟩, h) := Eq.trans rfl rfl
def kDf (r : Rec) (v : V) (az : List V) (dd : Option Nat) (os : List AOper) (t : Env) (d : List Dfr) (u : Option V) (h : Heap) : Option (Ex × Fr × Heap) := match v with
  | .fn (.func f) a b => stepOps r os ⟨A.put t dd .undef, .call f (a ++ az ++ b) :: d, some u⟩ h | _ => none
theorem ops_dfrv' (r : Rec) (dd : Option Nat) (x : Opd) (args : List Opd) (os : List AOper) (t : Env) (d : List Dfr) (u : Option V) (h : Heap) :
    stepOps r (⟨dd, .dfr (.dyn x) args, none⟩ :: os) ⟨t, d, some u⟩ h = kDf r (Opd.ev t x) (args.map (Opd.ev t)) dd os t d u h := by
  simp only [stepOps, stepOp, wanted, Option.bind_some, if_true, kDf, dfrOf, Option.isSome_some]
  cases Opd.ev t x with
  | fn f a b => cases f <;> rfl
  | _ => rfl
theorem kDf_fn (r : Rec) (f : Nat) (a b az : List V) (dd : Option Nat) (os : List AOper) (t : Env) (d : List Dfr) (u : Option V) (h : Heap) :
    kDf r (.fn (.func f) a b) az dd os t d u h = stepOps r os ⟨A.put t dd .undef, .call f (a ++ az ++ b) :: d, some u⟩ h := Eq.trans rfl rfl
def kLv (r : Rec) (rs : List ARes) (e : Env) (m : Option V) (ds : List Dfr) (x : Option (Out × Option V × Heap)) : Option (Out × Option V × Heap) :=
  x.bind fun (o, m', h') => match o with
      | .ret _ => leave r rs e none ds m' h'
      | .pan v => match m with | none => leave r rs e none ds (some v) h' | some _ => none
theorem leave_call (r : Rec) (rs : List ARes) (e : Env) (f : Nat) (args : List V) (ds : List Dfr) (m : Option V) (h : Heap) : leave r rs e none (.call f args :: ds) m h = kLv r rs e m ds (r.call f args m h) := Eq.trans rfl rfl
theorem kLv_ret (r : Rec) (rs : List ARes) (e : Env) (m m' : Option V) (ds : List Dfr) (v : V) (h : Heap) : kLv r rs e m ds (some (.ret v, m', h)) = leave r rs e none ds m' h := Eq.trans rfl rfl
theorem vAs_hit (t : Nat) (z v : V) : vAs t z true (.ifc t v) = some (.tup [v, .bool true]) := by simp [vAs]
theorem vAs_nil (t : Nat) (z : V) : vAs t z true .nili = some (.tup [z, .bool false]) := Eq.trans rfl rfl
def kR2 : Option V → Option V → Option V
  | some a, some b => some (.tup [a, b])
  | _, _ => none
theorem res_cc (t : Env) (h : Heap) (a b : Nat) : resV t h [.cell a none, .cell b none] = kR2 (vLd h (A.get t a)) (vLd h (A.get t b)) := by
  simp only [resV, resAll, resOf, vLd, kR2]
  cases A.get t a <;> try rfl
  rename_i x y
  cases A.get t b <;> (dsimp only; first | (cases (cellsAt h x).bind fun cs => cs[y]? <;> rfl) | skip)
  rename_i x' y'
  cases (cellsAt h x).bind fun cs => cs[y]? <;> cases (cellsAt h x').bind fun cs => cs[y']? <;> rfl
theorem kR2_some (a b : V) : kR2 (some a) (some b) = some (.tup [a, b]) := Eq.trans rfl rfl

/-- An append that makes a new block. -/
theorem app_new {n e bts : Nat} {h : Heap} {v x : V} {cs ds : List V} (he : 0 < e) (hn : n ≤ h.length) (o : Own n e h v cs) (hx : A.rc e h x = some ds) (h0 : lenOf x ≠ 0) (h1 : ds.all V.one = true)
    (hb : lenOf v + lenOf x ≤ 17592186044416) (hb2 : (lenOf v + lenOf x) * bts ≤ 17592186044416) :
    ∃ h', evApp e bts h v x = some (.sl e h.length 0 (lenOf v + lenOf x) (lenOf v + lenOf x), h') ∧ Own n e h' (.sl e h.length 0 (lenOf v + lenOf x) (lenOf v + lenOf x)) (cs ++ ds) ∧ Kept n v h h' := by
  have hs := src_of hx
  have hl := rc_len hx
  unfold evApp
  rw [hs]
  simp only [Option.bind_some, h1, if_true]
  rcases o with ⟨rfl, rfl⟩ | ⟨b, m, k, a1, a2, a3, a4, rfl⟩
  · simp only [lenOf_nils, Nat.zero_add] at hb hb2 ⊢
    refine ⟨_, by rw [if_neg h0, if_pos ⟨hb, hb2⟩], .inr ⟨h.length, .gr e, lenOf x, hn, by simp, .inr rfl, by simpa using hl, rfl⟩, ⟨by simp, fun i hi _ => List.getElem?_append_left hi⟩⟩
  · simp only [lenOf_sl] at hb hb2 ⊢
    simp only [if_true]
    rw [if_neg (by omega), if_neg (by omega), if_pos ⟨Nat.le_refl _, hb, hb2⟩]
    have hr : readN h b 0 (k * e) = some cs := by
      simp only [readN, cellsAt, a2, Option.bind_some]
      rw [if_pos (by omega)]
      simp [a4.symm]
    rw [hr]
    simp only [Option.bind_some, a2]
    have hlen : (cs ++ ds).length = (k + lenOf x) * e := by rw [List.length_append, a4, hl, Nat.add_mul]
    have hbl : b < h.length := (List.getElem?_eq_some_iff.1 a2).1
    rcases a3 with rfl | rfl
    · exact ⟨_, rfl, .inr ⟨h.length, .gr e, _, hn, by simp, .inr rfl, hlen, rfl⟩, ⟨by simp, fun i hi _ => List.getElem?_append_left hi⟩⟩
    · refine ⟨_, rfl, .inr ⟨h.length, .gr e, _, hn, by simp, .inr rfl, hlen, rfl⟩, ⟨by simp, fun i hi hne => ?_⟩⟩
      have : i ≠ b := by simp only [blkOf] at hne; omega
      rw [List.getElem?_append_left (by simpa using hi), List.getElem?_set_ne (by omega)]

/-- Lists of pieces of the same length. -/
theorem flat_len (e : Nat) : ∀ (l : List (List V)), (∀ x ∈ l, x.length = e) → l.flatten.length = l.length * e
  | [], _ => by simp
  | a :: l, h => by
    have h1 := h a (by simp)
    have h2 := flat_len e l (fun x hx => h x (by simp [hx]))
    rw [List.flatten_cons, List.length_append, h2, h1, List.length_cons, Nat.add_mul]; omega
theorem flat_get (e : Nat) : ∀ (l : List (List V)), (∀ x ∈ l, x.length = e) → ∀ (i : Nat) (hi : i < l.length), (l.flatten.drop (i * e)).take e = l[i]
  | a :: l, h, 0, _ => by
    have h1 := h a (by simp)
    rw [List.flatten_cons, Nat.zero_mul, List.drop_zero, ← h1, List.take_left]; rfl
  | a :: l, h, i + 1, hi => by
    have h1 := h a (by simp)
    have h2 := flat_get e l (fun x hx => h x (by simp [hx])) i (by simpa using hi)
    rw [List.flatten_cons, List.drop_append, h1, Nat.add_mul, Nat.one_mul, Nat.add_sub_cancel, List.drop_of_length_le (by omega), List.nil_append, h2]
    rfl
theorem one_nils : V.nils.one = true := Eq.trans rfl rfl
theorem one_bool (b : Bool) : (V.bool b).one = true := Eq.trans rfl rfl
theorem one_sl (e b o n c : Nat) : (V.sl e b o n c).one = true := Eq.trans rfl rfl
theorem one_ptr (b o : Nat) : (V.ptr b o).one = true := Eq.trans rfl rfl
end Go.A

/- The arguments of a law, az A sees them. -/
set_option linter.unusedVariables false
set_option linter.unusedSimpArgs false
set_option linter.unusedSectionVars false
namespace Go.A

theorem mapM_some {α β : Type} {f : α → Option β} : ∀ {l : List α} {ys : List β}, l.mapM f = some ys → ys.length = l.length ∧ ∀ (i : Nat) (x : α), l[i]? = some x → f x = ys[i]?
  | [], ys, h => by
    simp at h; subst h; simp
  | a :: l, ys, h => by
    simp only [List.mapM_cons, Option.bind_eq_bind, Option.pure_def, Option.bind_eq_some_iff] at h
    obtain ⟨y, hy, zs, hz, e⟩ := h
    cases e
    obtain ⟨h1, h2⟩ := mapM_some hz
    refine ⟨by simp [h1], fun i x hi => ?_⟩
    cases i with
    | zero => simp at hi; subst hi; simpa using hy
    | succ i => simp at hi; simpa using h2 i x hi

section
variable {H : Type} {enc : TypeId × Value → H} {P : Program} {W : World} {base : Nat} {sp : Nat → Bool} {held : Bool}

theorem cell_some {a : Addr} {v : Value} (h : W.cell? a = some v) : a.spot = none ∧ ∃ c t fr, W.heap[a.block]? = some (.cells c t fr) ∧ c[a.off]? = some v := by
  unfold World.cell? at h
  split at h
  · rename_i c t fr hb
    split at h
    · cases h
    · rename_i hs
      refine ⟨by cases hx : a.spot <;> simp_all, c, t, fr, hb, h⟩
  · cases h
theorem add_off (a : Addr) (n : Nat) : (a.add n).off = a.off + n ∧ (a.add n).block = a.block := by
  unfold Addr.add; split <;> simp_all
theorem add_add (a : Addr) (n m : Nat) : ((a.add n).add m).off = a.off + (n + m) ∧ ((a.add n).add m).block = a.block := by
  have h1 := add_off a n
  have h2 := add_off (a.add n) m
  omega

theorem cells_some {a : Addr} {n : Nat} {cs : List Value} (h : W.cells? base a n = some cs) : cs.length = n ∧ ∀ i, i < n → W.cell? (a.add i) = cs[i]? := by
  unfold World.cells? at h
  split at h
  · obtain ⟨h1, h2⟩ := mapM_some h
    refine ⟨by simpa using h1, fun i hi => h2 i i (by simp [hi])⟩
  · cases h

/-- A slice with room, cell by cell. -/
theorem rc_row (ez sz : Nat) (hsz : 0 < sz) {a : Addr} {len cap : Nat} (hlc : len ≤ cap) (hcap : 0 < cap) (C : Nat → List Value) (hC : ∀ i, i < cap → W.cells? base (a.add (i * sz)) sz = some (C i)) :
    rc sz (reH ez W) (reV W.heap.size sz (.slice (some a) len cap)) = some ((((List.range len).map C).flatten).map (reV W.heap.size ez)) := by
  obtain ⟨l0, h0⟩ := cells_some (hC 0 hcap)
  have h00 := h0 0 hsz
  rw [List.getElem?_eq_getElem (by omega)] at h00
  obtain ⟨s0, c, t, fr, hb, -⟩ := cell_some h00
  rw [(add_add a (0 * sz) 0).2] at hb
  have hspot : a.spot = none := by
    have : (a.add (0 * sz)).add 0 = a := by simp [Addr.add]
    rw [this] at s0; exact s0
  have hblt : a.block < W.heap.size := by
    by_cases hx : a.block < W.heap.size
    · exact hx
    · rw [Array.getElem?_eq_none (by omega)] at hb; cases hb
  have hcell : ∀ i, i < cap → ∀ j, j < sz → c[a.off + (i * sz + j)]? = (C i)[j]? := by
    intro i hi j hj
    obtain ⟨li, hi'⟩ := cells_some (hC i hi)
    have := hi' j hj
    rw [List.getElem?_eq_getElem (by omega)] at this ⊢
    obtain ⟨-, c', t', fr', hb', hc'⟩ := cell_some this
    rw [(add_add a (i * sz) j).2, hb] at hb'
    cases hb'
    rw [(add_add a (i * sz) j).1] at hc'
    exact hc'
  have hlen : a.off + cap * sz ≤ c.size := by
    obtain ⟨k, rfl⟩ : ∃ k, cap = k + 1 := ⟨cap - 1, by omega⟩
    have := hcell k (by omega) (sz - 1) (by omega)
    have hl := (cells_some (hC k (by omega))).1
    rw [List.getElem?_eq_getElem (by omega)] at this
    have h2 := (Array.getElem?_eq_some_iff.1 this).1
    have : (k + 1) * sz = k * sz + sz := by rw [Nat.add_mul, Nat.one_mul]
    omega
  have hat : cellsAt (reH ez W) a.block = some (c.toList.map (reV W.heap.size ez)) := by
    unfold cellsAt
    rw [reH_get, hb]
    rfl
  obtain ⟨ab, ao, az⟩ := a
  simp only at hspot hblt hcell hlen hat
  subst hspot
  have e : reV W.heap.size sz (.slice (some ⟨ab, ao, none⟩) len cap) = .sl sz ab ao len cap := by
    obtain ⟨k, rfl⟩ : ∃ k, cap = k + 1 := ⟨cap - 1, by omega⟩
    have : reV W.heap.size sz (.slice (some ⟨ab, ao, none⟩) len (k + 1)) = if ab < W.heap.size ∧ len ≤ k + 1 then .sl sz ab ao len (k + 1) else .undef := by cases len <;> rfl
    rw [this, if_pos ⟨hblt, hlc⟩]
  rw [e, rc_mk hlc hat (by
    have : len * sz ≤ cap * sz := Nat.mul_le_mul_right _ hlc
    simp; omega)]
  congr 1
  rw [← List.map_drop, ← List.map_take]
  congr 1
  clear hat e h00
  induction len with
  | zero => simp
  | succ n ih =>
    rw [List.range_succ, List.map_append, List.flatten_append, Nat.add_mul, Nat.one_mul, List.take_add, ih (by omega)]
    congr 1
    simp only [List.map_cons, List.map_nil, List.flatten_cons, List.flatten_nil, List.append_nil]
    obtain ⟨ln, -⟩ := cells_some (hC n (by omega))
    apply List.ext_getElem?
    intro j
    by_cases hj : j < sz
    · have := hcell n (by omega) j hj
      rw [List.getElem?_take, if_pos hj, List.getElem?_drop, List.getElem?_drop, ← this]
      simp [Nat.add_assoc]
    · rw [List.getElem?_eq_none (by rw [List.length_take]; have := Nat.min_le_left sz ((List.drop (n * sz) (List.drop ao c.toList)).length); omega), List.getElem?_eq_none (by omega)]

theorem reV_empty (n ez : Nat) (a : Option Addr) : reV n ez (.slice a 0 0) = .nils := by
  cases a <;> rfl

/-! ### what a reading says -/
theorem trod_int {t : TypeId} {k : IntKind} {fuel : Nat} {cs : List Value} {x : DataW H × List MemPlace} (ht : P.underlying t = some (.int k)) (h : DataW.trod enc P W base sp held fuel t cs = some x) :
    ∃ n, cs = [.int k n] ∧ (Lit.int k n).wf = true := by
  cases fuel with
  | zero => simp [DataW.trod] at h
  | succ n =>
    unfold DataW.trod at h
    rw [ht] at h
    split at h <;> simp_all
end
end Go.A

