/- The codes of the functions, for the small machine. -/
import Derived.Test.YtlcnhdbedgpbiaaOTLib
import Derived.Test.YtlcnhdbedgpbiaaProg
import Derived.KernelRfl
set_option maxRecDepth 100000
set_option linter.unusedVariables false
namespace Go.T
abbrev n_law09_DiskApart : Nat := 3
abbrev n_law09_DiskStays : Nat := 4
abbrev n_law09_DiskNobody : Nat := 5
abbrev n_law09_DiskLives : Nat := 6
abbrev n_law09_DiskCopies : Nat := 7
abbrev n_law09_awake : Nat := 8
abbrev n_disk_New : Nat := 9
abbrev n_disk_Disk_Append : Nat := 10
abbrev n_disk_Disk_Sync : Nat := 11
abbrev n_disk_Disk_Loose : Nat := 12
abbrev n_disk_Disk_Crash : Nat := 13
abbrev n_disk_Disk_Read : Nat := 14
abbrev n_slices_Clone_byte_byte : Nat := 15
abbrev n_slices_Equal_byte_byte : Nat := 16
abbrev n_disk_Disk_Clear : Nat := 17
abbrev n_disk_Disk_Cut : Nat := 18
abbrev n_disk_Disk_Size : Nat := 19
abbrev n_disk_Disk_Room : Nat := 20
abbrev n_disk_Disk_Slots : Nat := 21
abbrev n_disk_Disk_Copy : Nat := 22
abbrev n_ref09_New : Nat := 23
abbrev n_law09_do : Nat := 24
abbrev n_law09_same : Nat := 25
abbrev n_disk_Disk_at : Nat := 26
abbrev n_disk_Disk_all : Nat := 27
abbrev n_disk_slot_loose : Nat := 28
abbrev n_disk_keeper : Nat := 29
abbrev n_disk_slot_cut : Nat := 30
abbrev n_disk_Disk_made : Nat := 31
abbrev n_ref09_Disk_Append : Nat := 32
abbrev n_ref09_Disk_Clear : Nat := 33
abbrev n_ref09_Disk_Cut : Nat := 34
abbrev n_ref09_Disk_Sync : Nat := 35
abbrev n_ref09_Disk_Crash : Nat := 36
abbrev n_ref09_Disk_Read : Nat := 37
abbrev n_ref09_Disk_Size : Nat := 38
abbrev n_ref09_Disk_Loose : Nat := 39
abbrev n_disk_keeper_1 : Nat := 40
abbrev n_slices_Clip_byte_byte : Nat := 41
abbrev n_ref09_Disk_there : Nat := 42
/-- bailey/baileylaw09.DiskApart -/
def lp_law09_DiskApart_1 : TC :=
  .seq (.reg [⟨some 38, .ar .lss (.s 37) (.s 36), none⟩] [])
  (.seq (.cond (.s 38) (.skip)
  (.exit 0))
  (.seq (.block 1 (.seq (.reg [⟨some 39, .mv false (.s 37), none⟩,
    ⟨some 40, .ia 5 (.s 35) (.s 37), none⟩,
    ⟨some 41, .ldh false true 5 (.s 40), none⟩,
    ⟨some 10, .lal [.int .i64 0, .int .i64 0, .int .i64 0, .nils, .nils], none⟩,
    ⟨some 9, .mv false (.s 39), none⟩,
    ⟨none, .stl true 5 10 (.s 10) (.s 41), none⟩] [38, 39, 40, 41])
  (.seq (.reg [⟨some 42, .mv false (.s 9), none⟩,
    ⟨some 43, .ar .lss (.s 42) (.c (.int .i64 30)), none⟩,
    ⟨some 44, .mv false (.s 43), none⟩,
    ⟨some 45, .fa 3 (.s 10), (some (44, true))⟩,
    ⟨some 46, .ldl false false 1 10 (.s 45), (some (44, true))⟩,
    ⟨some 47, .len false (.s 46), (some (44, true))⟩,
    ⟨some 48, .ar .leq (.s 47) (.c (.int .i64 600)), (some (44, true))⟩,
    ⟨some 49, .pick (.s 44) (.s 48) (.c (.bool false)), none⟩] [9, 42, 43, 44, 45, 46, 47, 48])
  (.cond (.s 49) (.reg [⟨some 50, .mv false (.s 7), none⟩,
    ⟨some 51, .fa 1 (.s 10), none⟩,
    ⟨some 52, .ldl false false 1 10 (.s 51), none⟩,
    ⟨some 53, .cvi .u64 (.s 52), none⟩,
    ⟨some 54, .ar .rem (.s 53) (.c (.int .u64 2)), none⟩,
    ⟨some 55, .cvi .i64 (.s 54), none⟩,
    ⟨some 56, .ar .add (.c (.int .i64 1)) (.s 55), none⟩,
    ⟨some 57, .fa 3 (.s 10), none⟩,
    ⟨some 58, .ldl false false 1 10 (.s 57), none⟩,
    ⟨some 59, .call 0 n_disk_Disk_Append [(false, (.s 50)), (false, (.s 56)), (false, (.s 58))], none⟩] [10, 49, 50, 51, 52, 53, 54, 55, 56, 57, 58, 59])
  (.skip)))))
  (.reg [⟨some 60, .ar .add (.s 37) (.c (.int .i64 1)), none⟩,
    ⟨some 37, .mv false (.s 60), none⟩] [10, 49, 60])))
def jn_law09_DiskApart_2 : TC :=
  .seq (.reg [⟨some 65, .mv false (.s 7), none⟩,
    ⟨some 66, .mv false (.s 2), none⟩,
    ⟨some 67, .call 0 n_disk_Disk_Append [(false, (.s 65)), (false, (.c (.int .i64 0))), (false, (.s 66))], none⟩,
    ⟨some 68, .mv false (.s 11), none⟩,
    ⟨some 69, .ar .eql (.s 67) (.s 68), none⟩,
    ⟨some 70, .mv false (.s 69), none⟩,
    ⟨some 71, .call 2 n_law09_awake [], (some (70, true))⟩,
    ⟨some 72, .pick (.s 70) (.s 71) (.c (.bool false)), none⟩,
    ⟨some 6, .mv false (.s 72), none⟩] [])
  (.ret)
def tf_law09_DiskApart : TF := ⟨73, [.tmp 6],
  .seq (.reg [⟨some 6, .mv false (.c (.bool false)), none⟩] [6, 9, 10, 37, 38, 39, 40, 41, 42, 43, 44, 45, 46, 47, 48, 49, 50, 51, 52, 53, 54, 55, 56, 57, 58, 59, 60])
  (.seq (.seq (.reg [⟨some 12, .mv false (.s 2), none⟩,
    ⟨some 13, .len false (.s 12), none⟩,
    ⟨some 14, .ar .gtr (.s 13) (.c (.int .i64 600)), none⟩,
    ⟨some 15, .mv false (.s 14), none⟩,
    ⟨some 16, .mv false (.s 0), (some (15, false))⟩,
    ⟨some 17, .ar .lss (.s 16) (.c (.int .i64 0)), (some (15, false))⟩,
    ⟨some 18, .pick (.s 15) (.c (.bool true)) (.s 17), none⟩,
    ⟨some 19, .mv false (.s 18), none⟩,
    ⟨some 20, .mv false (.s 0), (some (19, false))⟩,
    ⟨some 21, .ar .gtr (.s 20) (.c (.int .i64 524288)), (some (19, false))⟩,
    ⟨some 22, .pick (.s 19) (.c (.bool true)) (.s 21), none⟩] [12, 13, 14, 15, 16, 17, 18, 19, 20, 21])
  (.cond (.s 22) (.seq (.reg [⟨some 23, .call 2 n_law09_awake [], none⟩,
    ⟨some 6, .mv false (.s 23), none⟩] [])
  (.ret))
  (.skip)))
  (.seq (.reg [⟨some 25, .mv false (.s 0), none⟩,
    ⟨some 26, .call 0 n_disk_New [(false, (.c (.int .i64 3))), (false, (.s 25))], none⟩,
    ⟨some 24, .mv true (.s 26), none⟩,
    ⟨some 27, .ext false 0 (.s 24), none⟩,
    ⟨some 28, .ext false 1 (.s 24), none⟩,
    ⟨some 7, .mv false (.s 27), none⟩,
    ⟨some 8, .mv false (.s 28), none⟩] [22, 24, 25, 26, 27, 28])
  (.seq (.seq (.reg [⟨some 29, .mv false (.s 7), none⟩,
    ⟨some 30, .eqp false (.s 29) (.c (.nilp)), none⟩,
    ⟨some 31, .mv false (.s 30), none⟩,
    ⟨some 32, .mv false (.s 8), (some (31, false))⟩,
    ⟨some 33, .ar .neq (.s 32) (.c (.int .i64 0)), (some (31, false))⟩,
    ⟨some 34, .pick (.s 31) (.c (.bool true)) (.s 33), none⟩] [8, 29, 30, 31, 32, 33])
  (.cond (.s 34) (.seq (.reg [⟨some 6, .mv false (.c (.bool false)), none⟩] [])
  (.ret))
  (.skip)))
  (.seq (.seq (.reg [⟨some 35, .mv true (.s 1), none⟩,
    ⟨some 36, .len false (.s 35), none⟩,
    ⟨some 37, .mv false (.c (.int .i64 0)), none⟩] [1, 34])
  (.block 0 (.loop lp_law09_DiskApart_1)))
  (.seq (.reg [⟨some 11, .mv false (.c (.int .i64 0)), none⟩] [35, 36, 37, 38])
  (.seq (.seq (.reg [⟨some 61, .mv false (.s 2), none⟩,
    ⟨some 62, .len false (.s 61), none⟩,
    ⟨some 63, .mv false (.s 0), none⟩,
    ⟨some 64, .ar .gtr (.s 62) (.s 63), none⟩] [0, 61, 62, 63])
  (.cond (.s 64) (.reg [⟨some 11, .mv false (.c (.int .i64 7)), none⟩] [64])
  (.skip)))
  (jn_law09_DiskApart_2))))))), true⟩
/-- bailey/baileylaw09.DiskStays -/
def tf_law09_DiskStays : TF := ⟨119, [.tmp 8],
  .seq (.reg [⟨some 8, .mv false (.c (.bool false)), none⟩] [8])
  (.seq (.reg [⟨some 16, .call 0 n_disk_New [(false, (.c (.int .i64 4))), (false, (.c (.int .i64 3000)))], none⟩,
    ⟨some 15, .mv true (.s 16), none⟩,
    ⟨some 17, .ext false 0 (.s 15), none⟩,
    ⟨some 18, .ext false 1 (.s 15), none⟩,
    ⟨some 9, .mv false (.s 17), none⟩,
    ⟨some 10, .mv false (.s 18), none⟩] [15, 16, 17, 18])
  (.seq (.seq (.reg [⟨some 19, .mv false (.s 9), none⟩,
    ⟨some 20, .eqp false (.s 19) (.c (.nilp)), none⟩,
    ⟨some 21, .mv false (.s 20), none⟩,
    ⟨some 22, .mv false (.s 10), (some (21, false))⟩,
    ⟨some 23, .ar .neq (.s 22) (.c (.int .i64 0)), (some (21, false))⟩,
    ⟨some 24, .pick (.s 21) (.c (.bool true)) (.s 23), none⟩,
    ⟨some 25, .mv false (.s 24), none⟩,
    ⟨some 26, .mv false (.s 1), (some (25, false))⟩,
    ⟨some 27, .len false (.s 26), (some (25, false))⟩,
    ⟨some 28, .ar .gtr (.s 27) (.c (.int .i64 1000)), (some (25, false))⟩,
    ⟨some 29, .pick (.s 25) (.c (.bool true)) (.s 28), none⟩,
    ⟨some 30, .mv false (.s 29), none⟩,
    ⟨some 31, .mv false (.s 2), (some (30, false))⟩,
    ⟨some 32, .len false (.s 31), (some (30, false))⟩,
    ⟨some 33, .ar .gtr (.s 32) (.c (.int .i64 1000)), (some (30, false))⟩,
    ⟨some 34, .pick (.s 30) (.c (.bool true)) (.s 33), none⟩,
    ⟨some 35, .mv false (.s 34), none⟩,
    ⟨some 36, .mv false (.s 3), (some (35, false))⟩,
    ⟨some 37, .len false (.s 36), (some (35, false))⟩,
    ⟨some 38, .ar .gtr (.s 37) (.c (.int .i64 30)), (some (35, false))⟩,
    ⟨some 39, .pick (.s 35) (.c (.bool true)) (.s 38), none⟩] [10, 19, 20, 21, 22, 23, 24, 25, 26, 27, 28, 29, 30, 31, 32, 33, 34, 35, 36, 37, 38])
  (.cond (.s 39) (.seq (.reg [⟨some 40, .mv false (.s 9), none⟩,
    ⟨some 41, .eqp true (.s 40) (.c (.nilp)), none⟩,
    ⟨some 42, .mv false (.s 41), none⟩,
    ⟨some 43, .call 2 n_law09_awake [], (some (42, true))⟩,
    ⟨some 44, .pick (.s 42) (.s 43) (.c (.bool false)), none⟩,
    ⟨some 8, .mv false (.s 44), none⟩] [])
  (.ret))
  (.skip)))
  (.seq (.reg [⟨some 45, .mv false (.s 0), none⟩,
    ⟨some 46, .ar .rem (.s 45) (.c (.int .u8 4)), none⟩,
    ⟨some 47, .cvi .i64 (.s 46), none⟩,
    ⟨some 11, .mv false (.s 47), none⟩] [0, 39, 45, 46, 47])
  (.seq (.seq (.reg [⟨some 48, .mv false (.s 9), none⟩,
    ⟨some 49, .mv false (.s 11), none⟩,
    ⟨some 50, .mv false (.s 1), none⟩,
    ⟨some 51, .call 0 n_disk_Disk_Append [(false, (.s 48)), (false, (.s 49)), (false, (.s 50))], none⟩,
    ⟨some 52, .ar .neq (.s 51) (.c (.int .i64 0)), none⟩,
    ⟨some 53, .mv false (.s 52), none⟩,
    ⟨some 54, .mv false (.s 9), (some (53, false))⟩,
    ⟨some 55, .call 0 n_disk_Disk_Sync [(false, (.s 54))], (some (53, false))⟩,
    ⟨some 56, .mv false (.s 1), (some (53, false))⟩,
    ⟨some 57, .len false (.s 56), (some (53, false))⟩,
    ⟨some 58, .ar .neq (.s 55) (.s 57), (some (53, false))⟩,
    ⟨some 59, .pick (.s 53) (.c (.bool true)) (.s 58), none⟩,
    ⟨some 60, .mv false (.s 59), none⟩,
    ⟨some 61, .mv false (.s 9), (some (60, false))⟩,
    ⟨some 62, .mv false (.s 11), (some (60, false))⟩,
    ⟨some 63, .mv false (.s 2), (some (60, false))⟩,
    ⟨some 64, .call 0 n_disk_Disk_Append [(false, (.s 61)), (false, (.s 62)), (false, (.s 63))], (some (60, false))⟩,
    ⟨some 65, .ar .neq (.s 64) (.c (.int .i64 0)), (some (60, false))⟩,
    ⟨some 66, .pick (.s 60) (.c (.bool true)) (.s 65), none⟩,
    ⟨some 67, .mv false (.s 66), none⟩,
    ⟨some 68, .mv false (.s 9), (some (67, false))⟩,
    ⟨some 69, .call 0 n_disk_Disk_Loose [(false, (.s 68))], (some (67, false))⟩,
    ⟨some 70, .mv false (.s 2), (some (67, false))⟩,
    ⟨some 71, .len false (.s 70), (some (67, false))⟩,
    ⟨some 72, .ar .neq (.s 69) (.s 71), (some (67, false))⟩,
    ⟨some 73, .pick (.s 67) (.c (.bool true)) (.s 72), none⟩] [48, 49, 50, 51, 52, 53, 54, 55, 56, 57, 58, 59, 60, 61, 62, 63, 64, 65, 66, 67, 68, 69, 70, 71, 72])
  (.cond (.s 73) (.seq (.reg [⟨some 8, .mv false (.c (.bool false)), none⟩] [])
  (.ret))
  (.skip)))
  (.seq (.reg [⟨some 74, .mv false (.s 9), none⟩,
    ⟨some 75, .mv false (.s 3), none⟩,
    ⟨some 76, .call 0 n_disk_Disk_Crash [(false, (.s 74)), (false, (.s 75))], none⟩] [3, 73, 74, 75, 76])
  (.seq (.reg [⟨some 78, .mv false (.s 9), none⟩,
    ⟨some 79, .mv false (.s 11), none⟩,
    ⟨some 80, .call 3 n_disk_Disk_Read [(false, (.s 78)), (false, (.s 79))], none⟩,
    ⟨some 77, .mv true (.s 80), none⟩,
    ⟨some 81, .ext true 0 (.s 77), none⟩,
    ⟨some 82, .ext false 1 (.s 77), none⟩,
    ⟨some 12, .mv true (.s 81), none⟩,
    ⟨some 13, .mv false (.s 82), none⟩] [11, 77, 78, 79, 80, 81, 82])
  (.seq (.reg [⟨some 83, .mv false (.s 1), none⟩,
    ⟨some 84, .call 3 n_slices_Clone_byte_byte [(false, (.s 83))], none⟩,
    ⟨some 85, .mv false (.s 2), none⟩,
    ⟨some 86, .app true 1 1 (.s 84) (.s 85), none⟩,
    ⟨some 14, .mv true (.s 86), none⟩] [2, 83, 84, 85, 86])
  (.seq (.reg [⟨some 87, .mv false (.s 13), none⟩,
    ⟨some 88, .ar .eql (.s 87) (.c (.int .i64 0)), none⟩,
    ⟨some 89, .mv false (.s 88), none⟩,
    ⟨some 90, .mv false (.s 12), (some (89, true))⟩,
    ⟨some 91, .len false (.s 90), (some (89, true))⟩,
    ⟨some 92, .mv false (.s 1), (some (89, true))⟩,
    ⟨some 93, .len false (.s 92), (some (89, true))⟩,
    ⟨some 94, .ar .geq (.s 91) (.s 93), (some (89, true))⟩,
    ⟨some 95, .pick (.s 89) (.s 94) (.c (.bool false)), none⟩,
    ⟨some 96, .mv false (.s 95), none⟩,
    ⟨some 97, .mv false (.s 12), (some (96, true))⟩,
    ⟨some 98, .len false (.s 97), (some (96, true))⟩,
    ⟨some 99, .mv false (.s 14), (some (96, true))⟩,
    ⟨some 100, .len false (.s 99), (some (96, true))⟩,
    ⟨some 101, .ar .leq (.s 98) (.s 100), (some (96, true))⟩,
    ⟨some 102, .pick (.s 96) (.s 101) (.c (.bool false)), none⟩,
    ⟨some 103, .mv false (.s 102), none⟩,
    ⟨some 104, .mv false (.s 12), (some (103, true))⟩,
    ⟨some 105, .mv false (.s 14), (some (103, true))⟩,
    ⟨some 106, .mv false (.s 12), (some (103, true))⟩,
    ⟨some 107, .len false (.s 106), (some (103, true))⟩,
    ⟨some 108, .slc 1 (.s 105) none (some (.s 107)) none, (some (103, true))⟩,
    ⟨some 109, .call 0 n_slices_Equal_byte_byte [(false, (.s 104)), (false, (.s 108))], (some (103, true))⟩,
    ⟨some 110, .pick (.s 103) (.s 109) (.c (.bool false)), none⟩,
    ⟨some 111, .mv false (.s 110), none⟩,
    ⟨some 112, .mv false (.s 9), (some (111, true))⟩,
    ⟨some 113, .call 0 n_disk_Disk_Loose [(false, (.s 112))], (some (111, true))⟩,
    ⟨some 114, .ar .eql (.s 113) (.c (.int .i64 0)), (some (111, true))⟩,
    ⟨some 115, .pick (.s 111) (.s 114) (.c (.bool false)), none⟩,
    ⟨some 116, .mv false (.s 115), none⟩,
    ⟨some 117, .call 2 n_law09_awake [], (some (116, true))⟩,
    ⟨some 118, .pick (.s 116) (.s 117) (.c (.bool false)), none⟩,
    ⟨some 8, .mv false (.s 118), none⟩] [])
  (.ret))))))))), true⟩
/-- bailey/baileylaw09.DiskNobody -/
def tf_law09_DiskNobody : TF := ⟨102, [.tmp 6],
  .seq (.reg [⟨some 6, .mv false (.c (.bool false)), none⟩] [6])
  (.seq (.reg [⟨some 7, .mv false (.c (.nilp)), none⟩] [])
  (.seq (.reg [⟨some 8, .hal [.nils, .int .i64 0], none⟩] [])
  (.seq (.reg [⟨some 14, .mv false (.s 7), none⟩,
    ⟨some 15, .mv false (.s 2), none⟩,
    ⟨some 16, .call 0 n_disk_Disk_Crash [(false, (.s 14)), (false, (.s 15))], none⟩] [14, 15, 16])
  (.seq (.reg [⟨some 17, .mv false (.s 2), none⟩,
    ⟨some 18, .call 0 n_disk_Disk_Crash [(false, (.s 8)), (false, (.s 17))], none⟩] [2, 17, 18])
  (.seq (.reg [⟨some 20, .mv false (.s 7), none⟩,
    ⟨some 21, .mv false (.s 0), none⟩,
    ⟨some 22, .call 3 n_disk_Disk_Read [(false, (.s 20)), (false, (.s 21))], none⟩,
    ⟨some 19, .mv true (.s 22), none⟩,
    ⟨some 23, .ext true 0 (.s 19), none⟩,
    ⟨some 24, .ext false 1 (.s 19), none⟩,
    ⟨some 9, .mv true (.s 23), none⟩,
    ⟨some 10, .mv false (.s 24), none⟩] [9, 19, 20, 21, 22, 23, 24])
  (.seq (.reg [⟨some 26, .mv false (.s 0), none⟩,
    ⟨some 27, .call 3 n_disk_Disk_Read [(false, (.s 8)), (false, (.s 26))], none⟩,
    ⟨some 25, .mv true (.s 27), none⟩,
    ⟨some 28, .ext true 0 (.s 25), none⟩,
    ⟨some 29, .ext false 1 (.s 25), none⟩,
    ⟨some 11, .mv true (.s 28), none⟩,
    ⟨some 12, .mv false (.s 29), none⟩] [11, 25, 26, 27, 28, 29])
  (.seq (.reg [⟨some 30, .mv false (.s 7), none⟩,
    ⟨some 31, .mv false (.s 0), none⟩,
    ⟨some 32, .mv false (.s 1), none⟩,
    ⟨some 33, .call 0 n_disk_Disk_Append [(false, (.s 30)), (false, (.s 31)), (false, (.s 32))], none⟩,
    ⟨some 34, .ar .eql (.s 33) (.c (.int .i64 2)), none⟩,
    ⟨some 35, .mv false (.s 34), none⟩,
    ⟨some 36, .mv false (.s 0), (some (35, true))⟩,
    ⟨some 37, .mv false (.s 1), (some (35, true))⟩,
    ⟨some 38, .call 0 n_disk_Disk_Append [(false, (.s 8)), (false, (.s 36)), (false, (.s 37))], (some (35, true))⟩,
    ⟨some 39, .ar .eql (.s 38) (.c (.int .i64 2)), (some (35, true))⟩,
    ⟨some 40, .pick (.s 35) (.s 39) (.c (.bool false)), none⟩,
    ⟨some 41, .mv false (.s 40), none⟩,
    ⟨some 42, .mv false (.s 7), (some (41, true))⟩,
    ⟨some 43, .mv false (.s 0), (some (41, true))⟩,
    ⟨some 44, .call 0 n_disk_Disk_Clear [(false, (.s 42)), (false, (.s 43))], (some (41, true))⟩,
    ⟨some 45, .ar .eql (.s 44) (.c (.int .i64 2)), (some (41, true))⟩,
    ⟨some 46, .pick (.s 41) (.s 45) (.c (.bool false)), none⟩,
    ⟨some 47, .mv false (.s 46), none⟩,
    ⟨some 48, .mv false (.s 0), (some (47, true))⟩,
    ⟨some 49, .mv false (.s 0), (some (47, true))⟩,
    ⟨some 50, .call 0 n_disk_Disk_Cut [(false, (.s 8)), (false, (.s 48)), (false, (.s 49))], (some (47, true))⟩,
    ⟨some 51, .ar .eql (.s 50) (.c (.int .i64 2)), (some (47, true))⟩,
    ⟨some 52, .pick (.s 47) (.s 51) (.c (.bool false)), none⟩,
    ⟨some 53, .mv false (.s 52), none⟩,
    ⟨some 54, .mv false (.s 10), (some (53, true))⟩,
    ⟨some 55, .ar .eql (.s 54) (.c (.int .i64 2)), (some (53, true))⟩,
    ⟨some 56, .pick (.s 53) (.s 55) (.c (.bool false)), none⟩,
    ⟨some 57, .mv false (.s 56), none⟩,
    ⟨some 58, .mv false (.s 12), (some (57, true))⟩,
    ⟨some 59, .ar .eql (.s 58) (.c (.int .i64 2)), (some (57, true))⟩,
    ⟨some 60, .pick (.s 57) (.s 59) (.c (.bool false)), none⟩,
    ⟨some 13, .mv false (.s 60), none⟩] [1, 10, 12, 30, 31, 32, 33, 34, 35, 36, 37, 38, 39, 40, 41, 42, 43, 44, 45, 46, 47, 48, 49, 50, 51, 52, 53, 54, 55, 56, 57, 58, 59, 60])
  (.seq (.reg [⟨some 61, .mv false (.s 13), none⟩,
    ⟨some 62, .mv false (.s 61), none⟩,
    ⟨some 63, .mv false (.s 7), (some (62, true))⟩,
    ⟨some 64, .call 0 n_disk_Disk_Sync [(false, (.s 63))], (some (62, true))⟩,
    ⟨some 65, .ar .eql (.s 64) (.c (.int .i64 0)), (some (62, true))⟩,
    ⟨some 66, .pick (.s 62) (.s 65) (.c (.bool false)), none⟩,
    ⟨some 67, .mv false (.s 66), none⟩,
    ⟨some 68, .call 0 n_disk_Disk_Sync [(false, (.s 8))], (some (67, true))⟩,
    ⟨some 69, .ar .eql (.s 68) (.c (.int .i64 0)), (some (67, true))⟩,
    ⟨some 70, .pick (.s 67) (.s 69) (.c (.bool false)), none⟩,
    ⟨some 71, .mv false (.s 70), none⟩,
    ⟨some 72, .mv false (.s 7), (some (71, true))⟩,
    ⟨some 73, .mv false (.s 0), (some (71, true))⟩,
    ⟨some 74, .call 0 n_disk_Disk_Size [(false, (.s 72)), (false, (.s 73))], (some (71, true))⟩,
    ⟨some 75, .ar .eql (.s 74) (.c (.int .i64 0)), (some (71, true))⟩,
    ⟨some 76, .pick (.s 71) (.s 75) (.c (.bool false)), none⟩,
    ⟨some 77, .mv false (.s 76), none⟩,
    ⟨some 78, .call 0 n_disk_Disk_Loose [(false, (.s 8))], (some (77, true))⟩,
    ⟨some 79, .ar .eql (.s 78) (.c (.int .i64 0)), (some (77, true))⟩,
    ⟨some 80, .pick (.s 77) (.s 79) (.c (.bool false)), none⟩,
    ⟨some 81, .mv false (.s 80), none⟩,
    ⟨some 82, .mv false (.s 7), (some (81, true))⟩,
    ⟨some 83, .call 0 n_disk_Disk_Room [(false, (.s 82))], (some (81, true))⟩,
    ⟨some 84, .ar .eql (.s 83) (.c (.int .i64 0)), (some (81, true))⟩,
    ⟨some 85, .pick (.s 81) (.s 84) (.c (.bool false)), none⟩,
    ⟨some 86, .mv false (.s 85), none⟩,
    ⟨some 87, .call 0 n_disk_Disk_Slots [(false, (.s 8))], (some (86, true))⟩,
    ⟨some 88, .ar .eql (.s 87) (.c (.int .i64 0)), (some (86, true))⟩,
    ⟨some 89, .pick (.s 86) (.s 88) (.c (.bool false)), none⟩,
    ⟨some 90, .mv false (.s 89), none⟩,
    ⟨some 91, .mv false (.s 7), (some (90, true))⟩,
    ⟨some 92, .call 0 n_disk_Disk_Copy [(false, (.s 91))], (some (90, true))⟩,
    ⟨some 93, .eqp false (.s 92) (.c (.nilp)), (some (90, true))⟩,
    ⟨some 94, .pick (.s 90) (.s 93) (.c (.bool false)), none⟩,
    ⟨some 95, .mv false (.s 94), none⟩,
    ⟨some 96, .call 0 n_disk_Disk_Copy [(false, (.s 8))], (some (95, true))⟩,
    ⟨some 97, .eqp false (.s 96) (.c (.nilp)), (some (95, true))⟩,
    ⟨some 98, .pick (.s 95) (.s 97) (.c (.bool false)), none⟩,
    ⟨some 99, .mv false (.s 98), none⟩,
    ⟨some 100, .call 2 n_law09_awake [], (some (99, true))⟩,
    ⟨some 101, .pick (.s 99) (.s 100) (.c (.bool false)), none⟩,
    ⟨some 6, .mv false (.s 101), none⟩] [])
  (.ret))))))))), true⟩
/-- bailey/baileylaw09.DiskLives -/
def lp_law09_DiskLives_1 : TC :=
  .seq (.reg [⟨some 38, .ar .lss (.s 37) (.s 36), none⟩] [])
  (.seq (.cond (.s 38) (.skip)
  (.exit 0))
  (.seq (.block 1 (.seq (.reg [⟨some 39, .mv false (.s 37), none⟩,
    ⟨some 40, .ia 5 (.s 35) (.s 37), none⟩,
    ⟨some 41, .ldh false true 5 (.s 40), none⟩,
    ⟨some 12, .lal [.int .i64 0, .int .i64 0, .int .i64 0, .nils, .nils], none⟩,
    ⟨some 11, .mv false (.s 39), none⟩,
    ⟨none, .stl true 5 12 (.s 12) (.s 41), none⟩] [38, 39, 40, 41])
  (.seq (.seq (.reg [⟨some 42, .mv false (.s 9), none⟩,
    ⟨some 43, .eqp false (.s 42) (.c (.nilp)), none⟩,
    ⟨some 44, .mv false (.s 43), none⟩,
    ⟨some 45, .mv false (.s 11), (some (44, false))⟩,
    ⟨some 46, .ar .geq (.s 45) (.c (.int .i64 40)), (some (44, false))⟩,
    ⟨some 47, .pick (.s 44) (.c (.bool true)) (.s 46), none⟩] [11, 42, 43, 44, 45, 46])
  (.cond (.s 47) (.exit 0)
  (.skip)))
  (.seq (.reg [⟨some 48, .mv false (.s 7), none⟩,
    ⟨some 49, .mv false (.s 9), none⟩,
    ⟨some 50, .ldl false true 5 12 (.s 12), none⟩,
    ⟨some 51, .call 0 n_law09_do [(false, (.s 48)), (false, (.s 49)), (false, (.s 50))], none⟩,
    ⟨some 52, .not (.s 51), none⟩,
    ⟨some 53, .mv false (.s 52), none⟩,
    ⟨some 54, .mv false (.s 7), (some (53, false))⟩,
    ⟨some 55, .mv false (.s 9), (some (53, false))⟩,
    ⟨some 56, .call 0 n_law09_same [(false, (.s 54)), (false, (.s 55))], (some (53, false))⟩,
    ⟨some 57, .not (.s 56), (some (53, false))⟩,
    ⟨some 58, .pick (.s 53) (.c (.bool true)) (.s 57), none⟩] [12, 47, 48, 49, 50, 51, 52, 53, 54, 55, 56, 57])
  (.cond (.s 58) (.seq (.reg [⟨some 6, .mv false (.c (.bool false)), none⟩] [])
  (.ret))
  (.skip))))))
  (.reg [⟨some 59, .ar .add (.s 37) (.c (.int .i64 1)), none⟩,
    ⟨some 37, .mv false (.s 59), none⟩] [58, 59])))
def jn_law09_DiskLives_2 : TC :=
  .seq (.reg [⟨some 60, .call 2 n_law09_awake [], none⟩,
    ⟨some 6, .mv false (.s 60), none⟩] [])
  (.ret)
def tf_law09_DiskLives : TF := ⟨61, [.tmp 6],
  .seq (.reg [⟨some 6, .mv false (.c (.bool false)), none⟩] [6, 11, 12, 37, 38, 39, 40, 41, 42, 43, 44, 45, 46, 47, 48, 49, 50, 51, 52, 53, 54, 55, 56, 57, 58, 59])
  (.seq (.reg [⟨some 14, .mv false (.s 0), none⟩,
    ⟨some 15, .mv false (.s 1), none⟩,
    ⟨some 16, .call 0 n_disk_New [(false, (.s 14)), (false, (.s 15))], none⟩,
    ⟨some 13, .mv true (.s 16), none⟩,
    ⟨some 17, .ext false 0 (.s 13), none⟩,
    ⟨some 18, .ext false 1 (.s 13), none⟩,
    ⟨some 7, .mv false (.s 17), none⟩,
    ⟨some 8, .mv false (.s 18), none⟩] [13, 14, 15, 16, 17, 18])
  (.seq (.reg [⟨some 20, .mv false (.s 0), none⟩,
    ⟨some 21, .mv false (.s 1), none⟩,
    ⟨some 22, .call 0 n_ref09_New [(false, (.s 20)), (false, (.s 21))], none⟩,
    ⟨some 19, .mv true (.s 22), none⟩,
    ⟨some 23, .ext false 0 (.s 19), none⟩,
    ⟨some 24, .ext false 1 (.s 19), none⟩,
    ⟨some 9, .mv false (.s 23), none⟩,
    ⟨some 10, .mv false (.s 24), none⟩] [0, 1, 19, 20, 21, 22, 23, 24])
  (.seq (.seq (.reg [⟨some 25, .mv false (.s 8), none⟩,
    ⟨some 26, .mv false (.s 10), none⟩,
    ⟨some 27, .ar .neq (.s 25) (.s 26), none⟩,
    ⟨some 28, .mv false (.s 27), none⟩,
    ⟨some 29, .mv false (.s 7), (some (28, false))⟩,
    ⟨some 30, .eqp false (.s 29) (.c (.nilp)), (some (28, false))⟩,
    ⟨some 31, .mv false (.s 9), (some (28, false))⟩,
    ⟨some 32, .eqp false (.s 31) (.c (.nilp)), (some (28, false))⟩,
    ⟨some 33, .eqb true (.s 30) (.s 32), (some (28, false))⟩,
    ⟨some 34, .pick (.s 28) (.c (.bool true)) (.s 33), none⟩] [8, 10, 25, 26, 27, 28, 29, 30, 31, 32, 33])
  (.cond (.s 34) (.seq (.reg [⟨some 6, .mv false (.c (.bool false)), none⟩] [])
  (.ret))
  (.skip)))
  (.seq (.seq (.reg [⟨some 35, .mv true (.s 2), none⟩,
    ⟨some 36, .len false (.s 35), none⟩,
    ⟨some 37, .mv false (.c (.int .i64 0)), none⟩] [2, 34])
  (.block 0 (.loop lp_law09_DiskLives_1)))
  (jn_law09_DiskLives_2))))), true⟩
/-- bailey/baileylaw09.DiskCopies -/
def lp_law09_DiskCopies_1 : TC :=
  .seq (.reg [⟨some 39, .ar .lss (.s 38) (.s 37), none⟩] [])
  (.seq (.cond (.s 39) (.skip)
  (.exit 0))
  (.seq (.block 1 (.seq (.reg [⟨some 40, .mv false (.s 38), none⟩,
    ⟨some 41, .ia 5 (.s 36) (.s 38), none⟩,
    ⟨some 42, .ldh false true 5 (.s 41), none⟩,
    ⟨some 10, .lal [.int .i64 0, .int .i64 0, .int .i64 0, .nils, .nils], none⟩,
    ⟨some 9, .mv false (.s 40), none⟩,
    ⟨none, .stl true 5 10 (.s 10) (.s 42), none⟩] [39, 40, 41, 42])
  (.seq (.reg [⟨some 43, .mv false (.s 9), none⟩,
    ⟨some 44, .ar .lss (.s 43) (.c (.int .i64 20)), none⟩,
    ⟨some 45, .mv false (.s 44), none⟩,
    ⟨some 46, .mv false (.s 5), (some (45, true))⟩,
    ⟨some 47, .mv false (.s 7), (some (45, true))⟩,
    ⟨some 48, .ldl false true 5 10 (.s 10), (some (45, true))⟩,
    ⟨some 49, .call 0 n_law09_do [(false, (.s 46)), (false, (.s 47)), (false, (.s 48))], (some (45, true))⟩,
    ⟨some 50, .not (.s 49), (some (45, true))⟩,
    ⟨some 51, .pick (.s 45) (.s 50) (.c (.bool false)), none⟩] [9, 10, 43, 44, 45, 46, 47, 48, 49, 50])
  (.cond (.s 51) (.seq (.reg [⟨some 4, .mv false (.c (.bool false)), none⟩] [])
  (.ret))
  (.skip)))))
  (.reg [⟨some 52, .ar .add (.s 38) (.c (.int .i64 1)), none⟩,
    ⟨some 38, .mv false (.s 52), none⟩] [51, 52])))
def tf_law09_DiskCopies : TF := ⟨76, [.tmp 4],
  .seq (.reg [⟨some 4, .mv false (.c (.bool false)), none⟩] [4, 9, 10, 38, 39, 40, 41, 42, 43, 44, 45, 46, 47, 48, 49, 50, 51, 52])
  (.seq (.reg [⟨some 13, .call 0 n_disk_New [(false, (.c (.int .i64 3))), (false, (.c (.int .i64 4000)))], none⟩,
    ⟨some 12, .mv true (.s 13), none⟩,
    ⟨some 14, .ext false 0 (.s 12), none⟩,
    ⟨some 15, .ext false 1 (.s 12), none⟩,
    ⟨some 5, .mv false (.s 14), none⟩,
    ⟨some 6, .mv false (.s 15), none⟩] [12, 13, 14, 15])
  (.seq (.reg [⟨some 17, .call 0 n_ref09_New [(false, (.c (.int .i64 3))), (false, (.c (.int .i64 4000)))], none⟩,
    ⟨some 16, .mv true (.s 17), none⟩,
    ⟨some 18, .ext false 0 (.s 16), none⟩,
    ⟨some 19, .ext false 1 (.s 16), none⟩,
    ⟨some 7, .mv false (.s 18), none⟩,
    ⟨some 8, .mv false (.s 19), none⟩] [8, 16, 17, 18, 19])
  (.seq (.seq (.reg [⟨some 20, .mv false (.s 5), none⟩,
    ⟨some 21, .eqp false (.s 20) (.c (.nilp)), none⟩,
    ⟨some 22, .mv false (.s 21), none⟩,
    ⟨some 23, .mv false (.s 6), (some (22, false))⟩,
    ⟨some 24, .ar .neq (.s 23) (.c (.int .i64 0)), (some (22, false))⟩,
    ⟨some 25, .pick (.s 22) (.c (.bool true)) (.s 24), none⟩,
    ⟨some 26, .mv false (.s 25), none⟩,
    ⟨some 27, .mv false (.s 1), (some (26, false))⟩,
    ⟨some 28, .len false (.s 27), (some (26, false))⟩,
    ⟨some 29, .ar .gtr (.s 28) (.c (.int .i64 600)), (some (26, false))⟩,
    ⟨some 30, .pick (.s 26) (.c (.bool true)) (.s 29), none⟩] [6, 20, 21, 22, 23, 24, 25, 26, 27, 28, 29])
  (.cond (.s 30) (.seq (.reg [⟨some 31, .mv false (.s 5), none⟩,
    ⟨some 32, .eqp true (.s 31) (.c (.nilp)), none⟩,
    ⟨some 33, .mv false (.s 32), none⟩,
    ⟨some 34, .call 2 n_law09_awake [], (some (33, true))⟩,
    ⟨some 35, .pick (.s 33) (.s 34) (.c (.bool false)), none⟩,
    ⟨some 4, .mv false (.s 35), none⟩] [])
  (.ret))
  (.skip)))
  (.seq (.seq (.reg [⟨some 36, .mv true (.s 0), none⟩,
    ⟨some 37, .len false (.s 36), none⟩,
    ⟨some 38, .mv false (.c (.int .i64 0)), none⟩] [0, 30])
  (.block 0 (.loop lp_law09_DiskCopies_1)))
  (.seq (.reg [⟨some 53, .mv false (.s 5), none⟩,
    ⟨some 54, .call 0 n_disk_Disk_Copy [(false, (.s 53))], none⟩,
    ⟨some 11, .mv false (.s 54), none⟩] [36, 37, 38, 39, 53, 54])
  (.seq (.seq (.reg [⟨some 55, .mv false (.s 11), none⟩,
    ⟨some 56, .eqp false (.s 55) (.c (.nilp)), none⟩,
    ⟨some 57, .mv false (.s 56), none⟩,
    ⟨some 58, .mv false (.s 11), (some (57, false))⟩,
    ⟨some 59, .mv false (.s 7), (some (57, false))⟩,
    ⟨some 60, .call 0 n_law09_same [(false, (.s 58)), (false, (.s 59))], (some (57, false))⟩,
    ⟨some 61, .not (.s 60), (some (57, false))⟩,
    ⟨some 62, .pick (.s 57) (.c (.bool true)) (.s 61), none⟩] [55, 56, 57, 58, 59, 60, 61])
  (.cond (.s 62) (.seq (.reg [⟨some 4, .mv false (.c (.bool false)), none⟩] [])
  (.ret))
  (.skip)))
  (.seq (.reg [⟨some 63, .mv false (.s 11), none⟩,
    ⟨some 64, .mv false (.s 1), none⟩,
    ⟨some 65, .call 0 n_disk_Disk_Append [(false, (.s 63)), (false, (.c (.int .i64 0))), (false, (.s 64))], none⟩] [1, 62, 63, 64, 65])
  (.seq (.reg [⟨some 66, .mv false (.s 11), none⟩,
    ⟨some 67, .call 0 n_disk_Disk_Clear [(false, (.s 66)), (false, (.c (.int .i64 1)))], none⟩] [66, 67])
  (.seq (.reg [⟨some 68, .mv false (.s 11), none⟩,
    ⟨some 69, .call 0 n_disk_Disk_Sync [(false, (.s 68))], none⟩] [11, 68, 69])
  (.seq (.reg [⟨some 70, .mv false (.s 5), none⟩,
    ⟨some 71, .mv false (.s 7), none⟩,
    ⟨some 72, .call 0 n_law09_same [(false, (.s 70)), (false, (.s 71))], none⟩,
    ⟨some 73, .mv false (.s 72), none⟩,
    ⟨some 74, .call 2 n_law09_awake [], (some (73, true))⟩,
    ⟨some 75, .pick (.s 73) (.s 74) (.c (.bool false)), none⟩,
    ⟨some 4, .mv false (.s 75), none⟩] [])
  (.ret))))))))))), true⟩
/-- bailey/baileylaw09.awake -/
def tf_law09_awake : TF := ⟨55, [.tmp 0],
  .seq (.reg [⟨some 0, .mv false (.c (.bool false)), none⟩] [])
  (.seq (.reg [⟨some 6, .call 0 n_disk_New [(false, (.c (.int .i64 2))), (false, (.c (.int .i64 3)))], none⟩,
    ⟨some 5, .mv true (.s 6), none⟩,
    ⟨some 7, .ext false 0 (.s 5), none⟩,
    ⟨some 8, .ext false 1 (.s 5), none⟩,
    ⟨some 1, .mv false (.s 7), none⟩,
    ⟨some 2, .mv false (.s 8), none⟩] [0, 5, 6, 7, 8])
  (.seq (.seq (.reg [⟨some 9, .mv false (.s 1), none⟩,
    ⟨some 10, .eqp false (.s 9) (.c (.nilp)), none⟩,
    ⟨some 11, .mv false (.s 10), none⟩,
    ⟨some 12, .mv false (.s 2), (some (11, false))⟩,
    ⟨some 13, .ar .neq (.s 12) (.c (.int .i64 0)), (some (11, false))⟩,
    ⟨some 14, .pick (.s 11) (.c (.bool true)) (.s 13), none⟩,
    ⟨some 15, .mv false (.s 14), none⟩,
    ⟨some 16, .mv false (.s 1), (some (15, false))⟩,
    ⟨some 17, .bsl false 1 2 [.int .u8 0] [(0, (.c (.int .u8 97))), (1, (.c (.int .u8 98)))], (some (15, false))⟩,
    ⟨some 18, .cvx (.s 17), (some (15, false))⟩,
    ⟨some 19, .call 0 n_disk_Disk_Append [(false, (.s 16)), (false, (.c (.int .i64 0))), (false, (.s 18))], (some (15, false))⟩,
    ⟨some 20, .ar .neq (.s 19) (.c (.int .i64 0)), (some (15, false))⟩,
    ⟨some 21, .pick (.s 15) (.c (.bool true)) (.s 20), none⟩,
    ⟨some 22, .mv false (.s 21), none⟩,
    ⟨some 23, .mv false (.s 1), (some (22, false))⟩,
    ⟨some 24, .call 0 n_disk_Disk_Sync [(false, (.s 23))], (some (22, false))⟩,
    ⟨some 25, .ar .neq (.s 24) (.c (.int .i64 2)), (some (22, false))⟩,
    ⟨some 26, .pick (.s 22) (.c (.bool true)) (.s 25), none⟩,
    ⟨some 27, .mv false (.s 26), none⟩,
    ⟨some 28, .mv false (.s 1), (some (27, false))⟩,
    ⟨some 29, .bsl false 1 1 [.int .u8 0] [(0, (.c (.int .u8 99)))], (some (27, false))⟩,
    ⟨some 30, .cvx (.s 29), (some (27, false))⟩,
    ⟨some 31, .call 0 n_disk_Disk_Append [(false, (.s 28)), (false, (.c (.int .i64 0))), (false, (.s 30))], (some (27, false))⟩,
    ⟨some 32, .ar .neq (.s 31) (.c (.int .i64 0)), (some (27, false))⟩,
    ⟨some 33, .pick (.s 27) (.c (.bool true)) (.s 32), none⟩,
    ⟨some 34, .mv false (.s 33), none⟩,
    ⟨some 35, .mv false (.s 1), (some (34, false))⟩,
    ⟨some 36, .bsl false 1 1 [.int .u8 0] [(0, (.c (.int .u8 100)))], (some (34, false))⟩,
    ⟨some 37, .cvx (.s 36), (some (34, false))⟩,
    ⟨some 38, .call 0 n_disk_Disk_Append [(false, (.s 35)), (false, (.c (.int .i64 0))), (false, (.s 37))], (some (34, false))⟩,
    ⟨some 39, .ar .neq (.s 38) (.c (.int .i64 7)), (some (34, false))⟩,
    ⟨some 40, .pick (.s 34) (.c (.bool true)) (.s 39), none⟩] [2, 9, 10, 11, 12, 13, 14, 15, 16, 17, 18, 19, 20, 21, 22, 23, 24, 25, 26, 27, 28, 29, 30, 31, 32, 33, 34, 35, 36, 37, 38, 39])
  (.cond (.s 40) (.seq (.reg [⟨some 0, .mv false (.c (.bool false)), none⟩] [])
  (.ret))
  (.skip)))
  (.seq (.reg [⟨some 41, .mv false (.s 1), none⟩,
    ⟨some 42, .call 0 n_disk_Disk_Crash [(false, (.s 41)), (false, (.c (.nils)))], none⟩] [40, 41, 42])
  (.seq (.reg [⟨some 44, .mv false (.s 1), none⟩,
    ⟨some 45, .call 3 n_disk_Disk_Read [(false, (.s 44)), (false, (.c (.int .i64 0)))], none⟩,
    ⟨some 43, .mv true (.s 45), none⟩,
    ⟨some 46, .ext true 0 (.s 43), none⟩,
    ⟨some 47, .ext false 1 (.s 43), none⟩,
    ⟨some 3, .mv true (.s 46), none⟩,
    ⟨some 4, .mv false (.s 47), none⟩] [1, 43, 44, 45, 46, 47])
  (.seq (.reg [⟨some 48, .mv false (.s 4), none⟩,
    ⟨some 49, .ar .eql (.s 48) (.c (.int .i64 0)), none⟩,
    ⟨some 50, .mv false (.s 49), none⟩,
    ⟨some 51, .mv false (.s 3), (some (50, true))⟩,
    ⟨some 52, .cvs (.s 51), (some (50, true))⟩,
    ⟨some 53, .ar .eql (.s 52) (.c (.str ⟨#[97, 98]⟩)), (some (50, true))⟩,
    ⟨some 54, .pick (.s 50) (.s 53) (.c (.bool false)), none⟩,
    ⟨some 0, .mv false (.s 54), none⟩] [])
  (.ret)))))), true⟩
/-- bailey/disk.New -/
def tf_disk_New : TF := ⟨25, [.tmp 4, .tmp 5],
  .seq (.reg [⟨some 4, .mv false (.c (.nilp)), none⟩,
    ⟨some 5, .mv false (.c (.int .i64 0)), none⟩] [4, 5])
  (.seq (.seq (.reg [⟨some 6, .mv false (.s 0), none⟩,
    ⟨some 7, .ar .lss (.s 6) (.c (.int .i64 1)), none⟩,
    ⟨some 8, .mv false (.s 7), none⟩,
    ⟨some 9, .mv false (.s 0), (some (8, false))⟩,
    ⟨some 10, .ar .gtr (.s 9) (.c (.int .i64 16)), (some (8, false))⟩,
    ⟨some 11, .pick (.s 8) (.c (.bool true)) (.s 10), none⟩,
    ⟨some 12, .mv false (.s 11), none⟩,
    ⟨some 13, .mv false (.s 1), (some (12, false))⟩,
    ⟨some 14, .ar .lss (.s 13) (.c (.int .i64 0)), (some (12, false))⟩,
    ⟨some 15, .pick (.s 12) (.c (.bool true)) (.s 14), none⟩,
    ⟨some 16, .mv false (.s 15), none⟩,
    ⟨some 17, .mv false (.s 1), (some (16, false))⟩,
    ⟨some 18, .ar .gtr (.s 17) (.c (.int .i64 524288)), (some (16, false))⟩,
    ⟨some 19, .pick (.s 16) (.c (.bool true)) (.s 18), none⟩] [6, 7, 8, 9, 10, 11, 12, 13, 14, 15, 16, 17, 18])
  (.cond (.s 19) (.seq (.reg [⟨some 4, .mv false (.c (.nilp)), none⟩,
    ⟨some 5, .mv false (.c (.int .i64 1)), none⟩] [])
  (.ret))
  (.skip)))
  (.seq (.reg [⟨some 20, .mv false (.s 0), none⟩,
    ⟨some 21, .mks true 2 32 [.nils, .int .i64 0] (.s 20) (.s 20), none⟩,
    ⟨some 22, .mv false (.s 1), none⟩,
    ⟨some 23, .build [.nils, .int .i64 0] [(0, 1, (.s 21)), (1, 1, (.s 22))], none⟩,
    ⟨some 24, .hbx true (.s 23), none⟩,
    ⟨some 4, .mv false (.s 24), none⟩,
    ⟨some 5, .mv false (.c (.int .i64 0)), none⟩] [])
  (.ret))), true⟩
/-- (*bailey/disk.Disk).Append -/
def tf_disk_Disk_Append : TF := ⟨40, [.tmp 6],
  .seq (.reg [⟨some 6, .mv false (.c (.int .i64 0)), none⟩] [6])
  (.seq (.reg [⟨some 10, .mv false (.s 0), none⟩,
    ⟨some 11, .mv false (.s 1), none⟩,
    ⟨some 12, .call 0 n_disk_Disk_at [(false, (.s 10)), (false, (.s 11))], none⟩,
    ⟨some 9, .mv true (.s 12), none⟩,
    ⟨some 13, .ext false 0 (.s 9), none⟩,
    ⟨some 14, .ext false 1 (.s 9), none⟩,
    ⟨some 7, .mv false (.s 13), none⟩,
    ⟨some 8, .mv false (.s 14), none⟩] [1, 9, 10, 11, 12, 13, 14])
  (.seq (.seq (.reg [⟨some 15, .mv false (.s 8), none⟩,
    ⟨some 16, .ar .neq (.s 15) (.c (.int .i64 0)), none⟩] [15])
  (.cond (.s 16) (.seq (.reg [⟨some 17, .mv false (.s 8), none⟩,
    ⟨some 6, .mv false (.s 17), none⟩] [])
  (.ret))
  (.skip)))
  (.seq (.seq (.reg [⟨some 18, .mv false (.s 2), none⟩,
    ⟨some 19, .len false (.s 18), none⟩,
    ⟨some 20, .mv false (.s 0), none⟩,
    ⟨some 21, .nilc (.s 20), none⟩,
    ⟨some 22, .fa 1 (.s 21), none⟩,
    ⟨some 23, .ldh false false 1 (.s 22), none⟩,
    ⟨some 24, .mv false (.s 7), none⟩,
    ⟨some 25, .nilc (.s 24), none⟩,
    ⟨some 26, .fa 0 (.s 25), none⟩,
    ⟨some 27, .ldh false false 1 (.s 26), none⟩,
    ⟨some 28, .len false (.s 27), none⟩,
    ⟨some 29, .ar .sub (.s 23) (.s 28), none⟩,
    ⟨some 30, .ar .gtr (.s 19) (.s 29), none⟩] [0, 8, 16, 18, 19, 20, 21, 22, 23, 24, 25, 26, 27, 28, 29])
  (.cond (.s 30) (.seq (.reg [⟨some 6, .mv false (.c (.int .i64 7)), none⟩] [])
  (.ret))
  (.skip)))
  (.seq (.reg [⟨some 31, .mv false (.s 7), none⟩,
    ⟨some 32, .mv false (.s 7), none⟩,
    ⟨some 33, .nilc (.s 32), none⟩,
    ⟨some 34, .fa 0 (.s 33), none⟩,
    ⟨some 35, .ldh true false 1 (.s 34), none⟩,
    ⟨some 36, .mv false (.s 2), none⟩,
    ⟨some 37, .app true 1 1 (.s 35) (.s 36), none⟩,
    ⟨some 38, .nilc (.s 31), none⟩,
    ⟨some 39, .fa 0 (.s 38), none⟩,
    ⟨none, .sth true 1 (.s 39) (.s 37), none⟩] [])
  (.seq (.reg [⟨some 6, .mv false (.c (.int .i64 0)), none⟩] [])
  (.ret)))))), true⟩
/-- (*bailey/disk.Disk).Sync -/
def lp_disk_Disk_Sync_1 : TC :=
  .seq (.reg [⟨some 12, .ar .lss (.s 11) (.s 10), none⟩] [])
  (.seq (.cond (.s 12) (.skip)
  (.exit 0))
  (.seq (.block 1 (.seq (.reg [⟨some 13, .ia 1 (.s 9) (.s 11), none⟩,
    ⟨some 14, .ldh false false 1 (.s 13), none⟩,
    ⟨some 5, .mv false (.s 14), none⟩] [12, 13, 14])
  (.reg [⟨some 15, .mv false (.s 5), none⟩,
    ⟨some 16, .mv false (.s 5), none⟩,
    ⟨some 17, .nilc (.s 16), none⟩,
    ⟨some 18, .fa 0 (.s 17), none⟩,
    ⟨some 19, .ldh false false 1 (.s 18), none⟩,
    ⟨some 20, .len false (.s 19), none⟩,
    ⟨some 21, .nilc (.s 15), none⟩,
    ⟨some 22, .fa 1 (.s 21), none⟩,
    ⟨none, .sth false 1 (.s 22) (.s 20), none⟩] [5, 15, 16, 17, 18, 19, 20, 21, 22])))
  (.reg [⟨some 23, .ar .add (.s 11) (.c (.int .i64 1)), none⟩,
    ⟨some 11, .mv false (.s 23), none⟩] [23])))
def tf_disk_Disk_Sync : TF := ⟨25, [.tmp 2],
  .seq (.reg [⟨some 2, .mv false (.c (.int .i64 0)), none⟩] [2, 5, 11, 12, 13, 14, 15, 16, 17, 18, 19, 20, 21, 22, 23])
  (.seq (.reg [⟨some 6, .mv false (.s 0), none⟩,
    ⟨some 7, .call 0 n_disk_Disk_Loose [(false, (.s 6))], none⟩,
    ⟨some 3, .mv false (.s 7), none⟩] [6, 7])
  (.seq (.seq (.reg [⟨some 8, .mv false (.s 0), none⟩,
    ⟨some 9, .call 0 n_disk_Disk_all [(false, (.s 8))], none⟩,
    ⟨some 10, .len false (.s 9), none⟩,
    ⟨some 11, .mv false (.c (.int .i64 0)), none⟩] [0, 8])
  (.block 0 (.loop lp_disk_Disk_Sync_1)))
  (.seq (.reg [⟨some 24, .mv false (.s 3), none⟩,
    ⟨some 2, .mv false (.s 24), none⟩] [])
  (.ret)))), true⟩
/-- (*bailey/disk.Disk).Loose -/
def lp_disk_Disk_Loose_1 : TC :=
  .seq (.reg [⟨some 10, .ar .lss (.s 9) (.s 8), none⟩] [])
  (.seq (.cond (.s 10) (.skip)
  (.exit 0))
  (.seq (.block 1 (.seq (.reg [⟨some 11, .ia 1 (.s 7) (.s 9), none⟩,
    ⟨some 12, .ldh false false 1 (.s 11), none⟩,
    ⟨some 5, .mv false (.s 12), none⟩] [10, 11, 12])
  (.reg [⟨some 13, .mv false (.s 3), none⟩,
    ⟨some 14, .mv false (.s 5), none⟩,
    ⟨some 15, .call 0 n_disk_slot_loose [(false, (.s 14))], none⟩,
    ⟨some 16, .ar .add (.s 13) (.s 15), none⟩,
    ⟨some 3, .mv false (.s 16), none⟩] [5, 13, 14, 15, 16])))
  (.reg [⟨some 17, .ar .add (.s 9) (.c (.int .i64 1)), none⟩,
    ⟨some 9, .mv false (.s 17), none⟩] [17])))
def tf_disk_Disk_Loose : TF := ⟨19, [.tmp 2],
  .seq (.reg [⟨some 2, .mv false (.c (.int .i64 0)), none⟩] [2, 3, 5, 9, 10, 11, 12, 13, 14, 15, 16, 17])
  (.seq (.reg [⟨some 3, .mv false (.c (.int .i64 0)), none⟩] [])
  (.seq (.seq (.reg [⟨some 6, .mv false (.s 0), none⟩,
    ⟨some 7, .call 0 n_disk_Disk_all [(false, (.s 6))], none⟩,
    ⟨some 8, .len false (.s 7), none⟩,
    ⟨some 9, .mv false (.c (.int .i64 0)), none⟩] [0, 6])
  (.block 0 (.loop lp_disk_Disk_Loose_1)))
  (.seq (.reg [⟨some 18, .mv false (.s 3), none⟩,
    ⟨some 2, .mv false (.s 18), none⟩] [])
  (.ret)))), true⟩
/-- (*bailey/disk.Disk).Crash -/
def lp_disk_Disk_Crash_1 : TC :=
  .seq (.reg [⟨some 14, .ar .lss (.s 13) (.s 12), none⟩] [])
  (.seq (.cond (.s 14) (.skip)
  (.exit 0))
  (.seq (.block 1 (.seq (.reg [⟨some 15, .ia 1 (.s 11) (.s 13), none⟩,
    ⟨some 16, .ldh false false 1 (.s 15), none⟩,
    ⟨some 6, .mv false (.s 16), none⟩] [14, 15, 16])
  (.seq (.reg [⟨some 17, .mv false (.s 6), none⟩,
    ⟨some 18, .call 0 n_disk_slot_loose [(false, (.s 17))], none⟩,
    ⟨some 7, .mv false (.s 18), none⟩] [17, 18])
  (.seq (.seq (.reg [⟨some 19, .mv false (.s 7), none⟩,
    ⟨some 20, .ar .eql (.s 19) (.c (.int .i64 0)), none⟩] [19])
  (.cond (.s 20) (.exit 1)
  (.skip)))
  (.seq (.reg [⟨some 21, .mv false (.s 6), none⟩,
    ⟨some 22, .mv false (.s 6), none⟩,
    ⟨some 23, .nilc (.s 22), none⟩,
    ⟨some 24, .fa 1 (.s 23), none⟩,
    ⟨some 25, .ldr false 1 (.s 6) (.s 24), none⟩,
    ⟨some 26, .mv false (.s 4), none⟩,
    ⟨some 27, .mv false (.s 7), none⟩,
    ⟨some 28, .calk [(.s 6)] (.s 26) [(false, (.s 27))], none⟩,
    ⟨some 29, .ar .add (.s 25) (.s 28), none⟩,
    ⟨some 30, .call 0 n_disk_slot_cut [(false, (.s 21)), (false, (.s 29))], none⟩] [7, 20, 21, 22, 23, 24, 25, 26, 27, 28, 29, 30])
  (.reg [⟨some 31, .mv false (.s 6), none⟩,
    ⟨some 32, .mv false (.s 6), none⟩,
    ⟨some 33, .nilc (.s 32), none⟩,
    ⟨some 34, .fa 0 (.s 33), none⟩,
    ⟨some 35, .ldh false false 1 (.s 34), none⟩,
    ⟨some 36, .len false (.s 35), none⟩,
    ⟨some 37, .nilc (.s 31), none⟩,
    ⟨some 38, .fa 1 (.s 37), none⟩,
    ⟨none, .sth false 1 (.s 38) (.s 36), none⟩] [6, 31, 32, 33, 34, 35, 36, 37, 38]))))))
  (.reg [⟨some 39, .ar .add (.s 13) (.c (.int .i64 1)), none⟩,
    ⟨some 13, .mv false (.s 39), none⟩] [6, 7, 20, 39])))
def tf_disk_Disk_Crash : TF := ⟨40, [],
  .seq (.reg [⟨some 8, .mv true (.s 1), none⟩,
    ⟨some 9, .call 0 n_disk_keeper [(false, (.s 8))], none⟩,
    ⟨some 4, .mv false (.s 9), none⟩] [1, 6, 7, 8, 9, 13, 14, 15, 16, 17, 18, 19, 20, 21, 22, 23, 24, 25, 26, 27, 28, 29, 30, 31, 32, 33, 34, 35, 36, 37, 38, 39])
  (.seq (.reg [⟨some 10, .mv false (.s 0), none⟩,
    ⟨some 11, .call 0 n_disk_Disk_all [(false, (.s 10))], none⟩,
    ⟨some 12, .len false (.s 11), none⟩,
    ⟨some 13, .mv false (.c (.int .i64 0)), none⟩] [0, 10])
  (.block 0 (.loop lp_disk_Disk_Crash_1))), true⟩
/-- (*bailey/disk.Disk).Read -/
def tf_disk_Disk_Read : TF := ⟨22, [.tmp 4, .tmp 5],
  .seq (.reg [⟨some 4, .mv true (.c (.nils)), none⟩,
    ⟨some 5, .mv false (.c (.int .i64 0)), none⟩] [4, 5])
  (.seq (.reg [⟨some 9, .mv false (.s 0), none⟩,
    ⟨some 10, .mv false (.s 1), none⟩,
    ⟨some 11, .call 0 n_disk_Disk_at [(false, (.s 9)), (false, (.s 10))], none⟩,
    ⟨some 8, .mv true (.s 11), none⟩,
    ⟨some 12, .ext false 0 (.s 8), none⟩,
    ⟨some 13, .ext false 1 (.s 8), none⟩,
    ⟨some 6, .mv false (.s 12), none⟩,
    ⟨some 7, .mv false (.s 13), none⟩] [0, 1, 8, 9, 10, 11, 12, 13])
  (.seq (.seq (.reg [⟨some 14, .mv false (.s 7), none⟩,
    ⟨some 15, .ar .neq (.s 14) (.c (.int .i64 0)), none⟩] [14])
  (.cond (.s 15) (.seq (.reg [⟨some 16, .mv false (.s 7), none⟩,
    ⟨some 4, .mv true (.c (.nils)), none⟩,
    ⟨some 5, .mv false (.s 16), none⟩] [])
  (.ret))
  (.skip)))
  (.seq (.reg [⟨some 17, .mv false (.s 6), none⟩,
    ⟨some 18, .nilc (.s 17), none⟩,
    ⟨some 19, .fa 0 (.s 18), none⟩,
    ⟨some 20, .ldh false false 1 (.s 19), none⟩,
    ⟨some 21, .call 3 n_slices_Clone_byte_byte [(false, (.s 20))], none⟩,
    ⟨some 4, .mv true (.s 21), none⟩,
    ⟨some 5, .mv false (.c (.int .i64 0)), none⟩] [])
  (.ret)))), false⟩
/-- slices.Equal[[]byte,byte] -/
def lp_slices_Equal_byte_byte_1 : TC :=
  .seq (.reg [⟨some 14, .ar .lss (.s 13) (.s 12), none⟩] [])
  (.seq (.cond (.s 14) (.skip)
  (.exit 0))
  (.seq (.block 1 (.seq (.reg [⟨some 15, .mv false (.s 13), none⟩,
    ⟨some 5, .mv false (.s 15), none⟩] [14, 15])
  (.seq (.reg [⟨some 16, .mv false (.s 0), none⟩,
    ⟨some 17, .mv false (.s 5), none⟩,
    ⟨some 18, .ia 1 (.s 16) (.s 17), none⟩,
    ⟨some 19, .ldh false false 1 (.s 18), none⟩,
    ⟨some 20, .mv false (.s 1), none⟩,
    ⟨some 21, .mv false (.s 5), none⟩,
    ⟨some 22, .ia 1 (.s 20) (.s 21), none⟩,
    ⟨some 23, .ldh false false 1 (.s 22), none⟩,
    ⟨some 24, .ar .neq (.s 19) (.s 23), none⟩] [5, 16, 17, 18, 19, 20, 21, 22, 23])
  (.cond (.s 24) (.seq (.reg [⟨some 4, .mv false (.c (.bool false)), none⟩] [])
  (.ret))
  (.skip)))))
  (.reg [⟨some 25, .ar .add (.s 13) (.c (.int .i64 1)), none⟩,
    ⟨some 13, .mv false (.s 25), none⟩] [24, 25])))
def tf_slices_Equal_byte_byte : TF := ⟨26, [.tmp 4],
  .seq (.reg [⟨some 4, .mv false (.c (.bool false)), none⟩] [4, 5, 13, 14, 15, 16, 17, 18, 19, 20, 21, 22, 23, 24, 25])
  (.seq (.seq (.reg [⟨some 6, .mv false (.s 0), none⟩,
    ⟨some 7, .len false (.s 6), none⟩,
    ⟨some 8, .mv false (.s 1), none⟩,
    ⟨some 9, .len false (.s 8), none⟩,
    ⟨some 10, .ar .neq (.s 7) (.s 9), none⟩] [6, 7, 8, 9])
  (.cond (.s 10) (.seq (.reg [⟨some 4, .mv false (.c (.bool false)), none⟩] [])
  (.ret))
  (.skip)))
  (.seq (.seq (.reg [⟨some 11, .mv false (.s 0), none⟩,
    ⟨some 12, .len false (.s 11), none⟩,
    ⟨some 13, .mv false (.c (.int .i64 0)), none⟩] [10, 11])
  (.block 0 (.loop lp_slices_Equal_byte_byte_1)))
  (.seq (.reg [⟨some 4, .mv false (.c (.bool true)), none⟩] [])
  (.ret)))), true⟩
/-- (*bailey/disk.Disk).Clear -/
def tf_disk_Disk_Clear : TF := ⟨8, [.tmp 4],
  .seq (.reg [⟨some 4, .mv false (.c (.int .i64 0)), none⟩] [4])
  (.seq (.reg [⟨some 5, .mv false (.s 0), none⟩,
    ⟨some 6, .mv false (.s 1), none⟩,
    ⟨some 7, .call 0 n_disk_Disk_Cut [(false, (.s 5)), (false, (.s 6)), (false, (.c (.int .i64 0)))], none⟩,
    ⟨some 4, .mv false (.s 7), none⟩] [])
  (.ret)), true⟩
/-- (*bailey/disk.Disk).Cut -/
def tf_disk_Disk_Cut : TF := ⟨32, [.tmp 6],
  .seq (.reg [⟨some 6, .mv false (.c (.int .i64 0)), none⟩] [6])
  (.seq (.reg [⟨some 10, .mv false (.s 0), none⟩,
    ⟨some 11, .mv false (.s 1), none⟩,
    ⟨some 12, .call 0 n_disk_Disk_at [(false, (.s 10)), (false, (.s 11))], none⟩,
    ⟨some 9, .mv true (.s 12), none⟩,
    ⟨some 13, .ext false 0 (.s 9), none⟩,
    ⟨some 14, .ext false 1 (.s 9), none⟩,
    ⟨some 7, .mv false (.s 13), none⟩,
    ⟨some 8, .mv false (.s 14), none⟩] [0, 1, 9, 10, 11, 12, 13, 14])
  (.seq (.seq (.reg [⟨some 15, .mv false (.s 8), none⟩,
    ⟨some 16, .ar .neq (.s 15) (.c (.int .i64 0)), none⟩] [15])
  (.cond (.s 16) (.seq (.reg [⟨some 17, .mv false (.s 8), none⟩,
    ⟨some 6, .mv false (.s 17), none⟩] [])
  (.ret))
  (.skip)))
  (.seq (.seq (.reg [⟨some 18, .mv false (.s 2), none⟩,
    ⟨some 19, .ar .lss (.s 18) (.c (.int .i64 0)), none⟩,
    ⟨some 20, .mv false (.s 19), none⟩,
    ⟨some 21, .mv false (.s 2), (some (20, false))⟩,
    ⟨some 22, .mv false (.s 7), (some (20, false))⟩,
    ⟨some 23, .nilc (.s 22), (some (20, false))⟩,
    ⟨some 24, .fa 0 (.s 23), (some (20, false))⟩,
    ⟨some 25, .ldh false false 1 (.s 24), (some (20, false))⟩,
    ⟨some 26, .len false (.s 25), (some (20, false))⟩,
    ⟨some 27, .ar .gtr (.s 21) (.s 26), (some (20, false))⟩,
    ⟨some 28, .pick (.s 20) (.c (.bool true)) (.s 27), none⟩] [8, 16, 18, 19, 20, 21, 22, 23, 24, 25, 26, 27])
  (.cond (.s 28) (.seq (.reg [⟨some 6, .mv false (.c (.int .i64 1)), none⟩] [])
  (.ret))
  (.skip)))
  (.seq (.reg [⟨some 29, .mv false (.s 7), none⟩,
    ⟨some 30, .mv false (.s 2), none⟩,
    ⟨some 31, .call 0 n_disk_slot_cut [(false, (.s 29)), (false, (.s 30))], none⟩] [])
  (.seq (.reg [⟨some 6, .mv false (.c (.int .i64 0)), none⟩] [])
  (.ret)))))), true⟩
/-- (*bailey/disk.Disk).Size -/
def tf_disk_Disk_Size : TF := ⟨20, [.tmp 4],
  .seq (.reg [⟨some 4, .mv false (.c (.int .i64 0)), none⟩] [4])
  (.seq (.reg [⟨some 8, .mv false (.s 0), none⟩,
    ⟨some 9, .mv false (.s 1), none⟩,
    ⟨some 10, .call 0 n_disk_Disk_at [(false, (.s 8)), (false, (.s 9))], none⟩,
    ⟨some 7, .mv true (.s 10), none⟩,
    ⟨some 11, .ext false 0 (.s 7), none⟩,
    ⟨some 12, .ext false 1 (.s 7), none⟩,
    ⟨some 5, .mv false (.s 11), none⟩,
    ⟨some 6, .mv false (.s 12), none⟩] [0, 1, 7, 8, 9, 10, 11, 12])
  (.seq (.seq (.reg [⟨some 13, .mv false (.s 6), none⟩,
    ⟨some 14, .ar .neq (.s 13) (.c (.int .i64 0)), none⟩] [6, 13])
  (.cond (.s 14) (.seq (.reg [⟨some 4, .mv false (.c (.int .i64 0)), none⟩] [])
  (.ret))
  (.skip)))
  (.seq (.reg [⟨some 15, .mv false (.s 5), none⟩,
    ⟨some 16, .nilc (.s 15), none⟩,
    ⟨some 17, .fa 0 (.s 16), none⟩,
    ⟨some 18, .ldh false false 1 (.s 17), none⟩,
    ⟨some 19, .len false (.s 18), none⟩,
    ⟨some 4, .mv false (.s 19), none⟩] [])
  (.ret)))), true⟩
/-- (*bailey/disk.Disk).Room -/
def tf_disk_Disk_Room : TF := ⟨10, [.tmp 2],
  .seq (.reg [⟨some 2, .mv false (.c (.int .i64 0)), none⟩] [2])
  (.seq (.seq (.reg [⟨some 3, .mv false (.s 0), none⟩,
    ⟨some 4, .call 0 n_disk_Disk_made [(false, (.s 3))], none⟩,
    ⟨some 5, .not (.s 4), none⟩] [3, 4])
  (.cond (.s 5) (.seq (.reg [⟨some 2, .mv false (.c (.int .i64 0)), none⟩] [])
  (.ret))
  (.skip)))
  (.seq (.reg [⟨some 6, .mv false (.s 0), none⟩,
    ⟨some 7, .nilc (.s 6), none⟩,
    ⟨some 8, .fa 1 (.s 7), none⟩,
    ⟨some 9, .ldh false false 1 (.s 8), none⟩,
    ⟨some 2, .mv false (.s 9), none⟩] [])
  (.ret))), true⟩
/-- (*bailey/disk.Disk).Slots -/
def tf_disk_Disk_Slots : TF := ⟨11, [.tmp 2],
  .seq (.reg [⟨some 2, .mv false (.c (.int .i64 0)), none⟩] [2])
  (.seq (.seq (.reg [⟨some 3, .mv false (.s 0), none⟩,
    ⟨some 4, .call 0 n_disk_Disk_made [(false, (.s 3))], none⟩,
    ⟨some 5, .not (.s 4), none⟩] [3, 4])
  (.cond (.s 5) (.seq (.reg [⟨some 2, .mv false (.c (.int .i64 0)), none⟩] [])
  (.ret))
  (.skip)))
  (.seq (.reg [⟨some 6, .mv false (.s 0), none⟩,
    ⟨some 7, .nilc (.s 6), none⟩,
    ⟨some 8, .fa 0 (.s 7), none⟩,
    ⟨some 9, .ldh false false 1 (.s 8), none⟩,
    ⟨some 10, .len false (.s 9), none⟩,
    ⟨some 2, .mv false (.s 10), none⟩] [])
  (.ret))), true⟩
/-- (*bailey/disk.Disk).Copy -/
def lp_disk_Disk_Copy_1 : TC :=
  .seq (.reg [⟨some 19, .ar .lss (.s 18) (.s 17), none⟩] [])
  (.seq (.cond (.s 19) (.skip)
  (.exit 0))
  (.seq (.block 1 (.seq (.reg [⟨some 20, .ia 1 (.s 16) (.s 18), none⟩,
    ⟨some 21, .ldh false false 1 (.s 20), none⟩,
    ⟨some 5, .mv false (.s 21), none⟩] [19, 20, 21])
  (.reg [⟨some 22, .mv false (.s 3), none⟩,
    ⟨some 23, .mv false (.s 3), none⟩,
    ⟨some 24, .nilc (.s 23), none⟩,
    ⟨some 25, .fa 0 (.s 24), none⟩,
    ⟨some 26, .ldk false 1 (.s 25), none⟩,
    ⟨some 27, .mv false (.s 5), none⟩,
    ⟨some 28, .nilc (.s 27), none⟩,
    ⟨some 29, .fa 0 (.s 28), none⟩,
    ⟨some 30, .ldh false false 1 (.s 29), none⟩,
    ⟨some 31, .call 5 n_slices_Clone_byte_byte [(false, (.s 30))], none⟩,
    ⟨some 32, .mv false (.s 5), none⟩,
    ⟨some 33, .nilc (.s 32), none⟩,
    ⟨some 34, .fa 1 (.s 33), none⟩,
    ⟨some 35, .ldh false false 1 (.s 34), none⟩,
    ⟨some 36, .build [.nils, .int .i64 0] [(0, 1, (.s 31)), (1, 1, (.s 35))], none⟩,
    ⟨some 37, .bsl true 2 1 [.nils, .int .i64 0] [(0, (.s 36))], none⟩,
    ⟨some 38, .apr true 2 32 (.s 26) (.s 37), none⟩,
    ⟨some 39, .nilc (.s 22), none⟩,
    ⟨some 40, .fa 0 (.s 39), none⟩,
    ⟨none, .sth true 1 (.s 40) (.s 38), none⟩] [5, 22, 23, 24, 25, 26, 27, 28, 29, 30, 31, 32, 33, 34, 35, 36, 37, 38, 39, 40])))
  (.reg [⟨some 41, .ar .add (.s 18) (.c (.int .i64 1)), none⟩,
    ⟨some 18, .mv false (.s 41), none⟩] [41])))
def tf_disk_Disk_Copy : TF := ⟨43, [.tmp 2],
  .seq (.reg [⟨some 2, .mv false (.c (.nilp)), none⟩] [2, 5, 18, 19, 20, 21, 22, 23, 24, 25, 26, 27, 28, 29, 30, 31, 32, 33, 34, 35, 36, 37, 38, 39, 40, 41])
  (.seq (.seq (.reg [⟨some 6, .mv false (.s 0), none⟩,
    ⟨some 7, .call 0 n_disk_Disk_made [(false, (.s 6))], none⟩,
    ⟨some 8, .not (.s 7), none⟩] [6, 7])
  (.cond (.s 8) (.seq (.reg [⟨some 2, .mv false (.c (.nilp)), none⟩] [])
  (.ret))
  (.skip)))
  (.seq (.reg [⟨some 9, .mv false (.s 0), none⟩,
    ⟨some 10, .nilc (.s 9), none⟩,
    ⟨some 11, .fa 1 (.s 10), none⟩,
    ⟨some 12, .ldh false false 1 (.s 11), none⟩,
    ⟨some 13, .build [.nils, .int .i64 0] [(1, 1, (.s 12))], none⟩,
    ⟨some 14, .hbx true (.s 13), none⟩,
    ⟨some 3, .mv false (.s 14), none⟩] [8, 9, 10, 11, 12, 13, 14])
  (.seq (.seq (.reg [⟨some 15, .mv false (.s 0), none⟩,
    ⟨some 16, .call 0 n_disk_Disk_all [(false, (.s 15))], none⟩,
    ⟨some 17, .len false (.s 16), none⟩,
    ⟨some 18, .mv false (.c (.int .i64 0)), none⟩] [0, 15])
  (.block 0 (.loop lp_disk_Disk_Copy_1)))
  (.seq (.reg [⟨some 42, .mv false (.s 3), none⟩,
    ⟨some 2, .mv false (.s 42), none⟩] [])
  (.ret))))), true⟩
/-- bailey/baileylaw09.do -/
def lp_law09_do_1 : TC :=
  .seq (.reg [⟨some 49, .ar .lss (.s 48) (.s 47), none⟩] [])
  (.seq (.cond (.s 49) (.skip)
  (.exit 1))
  (.seq (.block 2 (.seq (.reg [⟨some 50, .mv false (.s 48), none⟩,
    ⟨some 9, .mv false (.s 50), none⟩] [49, 50])
  (.reg [⟨some 51, .mv false (.s 7), none⟩,
    ⟨some 52, .mv false (.s 9), none⟩,
    ⟨some 53, .ia 1 (.s 51) (.s 52), none⟩,
    ⟨none, .sth false 1 (.s 53) (.c (.int .u8 255)), none⟩] [9, 51, 52, 53])))
  (.reg [⟨some 54, .ar .add (.s 48) (.c (.int .i64 1)), none⟩,
    ⟨some 48, .mv false (.s 54), none⟩] [54])))
def lp_law09_do_2 : TC :=
  .seq (.reg [⟨some 126, .ar .lss (.s 125) (.s 124), none⟩] [])
  (.seq (.cond (.s 126) (.skip)
  (.exit 3))
  (.seq (.block 4 (.seq (.reg [⟨some 127, .mv false (.s 125), none⟩,
    ⟨some 15, .mv false (.s 127), none⟩] [126, 127])
  (.reg [⟨some 128, .mv false (.s 10), none⟩,
    ⟨some 129, .mv false (.s 15), none⟩,
    ⟨some 130, .ia 1 (.s 128) (.s 129), none⟩,
    ⟨none, .sth false 1 (.s 130) (.c (.int .u8 255)), none⟩] [15, 128, 129, 130])))
  (.reg [⟨some 131, .ar .add (.s 125) (.c (.int .i64 1)), none⟩,
    ⟨some 125, .mv false (.s 131), none⟩] [131])))
def jn_law09_do_3 : TC :=
  .cond (.s 28) (.seq (.reg [⟨some 31, .fa 3 (.s 5), none⟩,
    ⟨some 32, .ldl false false 1 5 (.s 31), none⟩,
    ⟨some 33, .call 0 n_slices_Clone_byte_byte [(false, (.s 32))], none⟩,
    ⟨some 7, .mv true (.s 33), none⟩] [27, 28, 31, 32, 33])
  (.seq (.reg [⟨some 34, .mv false (.s 0), none⟩,
    ⟨some 35, .fa 1 (.s 5), none⟩,
    ⟨some 36, .ldl false false 1 5 (.s 35), none⟩,
    ⟨some 37, .mv false (.s 7), none⟩,
    ⟨some 38, .call 0 n_disk_Disk_Append [(false, (.s 34)), (false, (.s 36)), (false, (.s 37))], none⟩,
    ⟨some 39, .mv false (.s 1), none⟩,
    ⟨some 40, .fa 1 (.s 5), none⟩,
    ⟨some 41, .ldl false false 1 5 (.s 40), none⟩,
    ⟨some 42, .fa 3 (.s 5), none⟩,
    ⟨some 43, .ldl false false 1 5 (.s 42), none⟩,
    ⟨some 44, .call 0 n_ref09_Disk_Append [(false, (.s 39)), (false, (.s 41)), (false, (.s 43))], none⟩,
    ⟨some 45, .ar .eql (.s 38) (.s 44), none⟩,
    ⟨some 8, .mv false (.s 45), none⟩] [0, 1, 5, 34, 35, 36, 37, 38, 39, 40, 41, 42, 43, 44, 45])
  (.seq (.seq (.reg [⟨some 46, .mv false (.s 7), none⟩,
    ⟨some 47, .len false (.s 46), none⟩,
    ⟨some 48, .mv false (.c (.int .i64 0)), none⟩] [46])
  (.block 1 (.loop lp_law09_do_1)))
  (.seq (.reg [⟨some 55, .mv false (.s 8), none⟩,
    ⟨some 6, .mv false (.s 55), none⟩] [])
  (.ret)))))
  (.seq (.reg [⟨some 57, .ar .eql (.s 27) (.c (.int .i64 2)), none⟩,
    ⟨some 56, .mv false (.s 57), none⟩] [28, 57])
  (.cond (.s 56) (.seq (.reg [⟨some 58, .mv false (.s 0), none⟩,
    ⟨some 59, .fa 1 (.s 5), none⟩,
    ⟨some 60, .ldl false false 1 5 (.s 59), none⟩,
    ⟨some 61, .call 0 n_disk_Disk_Clear [(false, (.s 58)), (false, (.s 60))], none⟩,
    ⟨some 62, .mv false (.s 1), none⟩,
    ⟨some 63, .fa 1 (.s 5), none⟩,
    ⟨some 64, .ldl false false 1 5 (.s 63), none⟩,
    ⟨some 65, .call 0 n_ref09_Disk_Clear [(false, (.s 62)), (false, (.s 64))], none⟩,
    ⟨some 66, .ar .eql (.s 61) (.s 65), none⟩,
    ⟨some 6, .mv false (.s 66), none⟩] [])
  (.ret))
  (.seq (.reg [⟨some 68, .ar .eql (.s 27) (.c (.int .i64 3)), none⟩,
    ⟨some 67, .mv false (.s 68), none⟩] [56, 68])
  (.cond (.s 67) (.seq (.reg [⟨some 69, .mv false (.s 0), none⟩,
    ⟨some 70, .fa 1 (.s 5), none⟩,
    ⟨some 71, .ldl false false 1 5 (.s 70), none⟩,
    ⟨some 72, .fa 2 (.s 5), none⟩,
    ⟨some 73, .ldl false false 1 5 (.s 72), none⟩,
    ⟨some 74, .call 0 n_disk_Disk_Cut [(false, (.s 69)), (false, (.s 71)), (false, (.s 73))], none⟩,
    ⟨some 75, .mv false (.s 1), none⟩,
    ⟨some 76, .fa 1 (.s 5), none⟩,
    ⟨some 77, .ldl false false 1 5 (.s 76), none⟩,
    ⟨some 78, .fa 2 (.s 5), none⟩,
    ⟨some 79, .ldl false false 1 5 (.s 78), none⟩,
    ⟨some 80, .call 0 n_ref09_Disk_Cut [(false, (.s 75)), (false, (.s 77)), (false, (.s 79))], none⟩,
    ⟨some 81, .ar .eql (.s 74) (.s 80), none⟩,
    ⟨some 6, .mv false (.s 81), none⟩] [])
  (.ret))
  (.seq (.reg [⟨some 83, .ar .eql (.s 27) (.c (.int .i64 4)), none⟩,
    ⟨some 82, .mv false (.s 83), none⟩] [67, 83])
  (.cond (.s 82) (.seq (.reg [⟨some 84, .mv false (.s 0), none⟩,
    ⟨some 85, .call 0 n_disk_Disk_Sync [(false, (.s 84))], none⟩,
    ⟨some 86, .mv false (.s 1), none⟩,
    ⟨some 87, .call 0 n_ref09_Disk_Sync [(false, (.s 86))], none⟩,
    ⟨some 88, .ar .eql (.s 85) (.s 87), none⟩,
    ⟨some 6, .mv false (.s 88), none⟩] [])
  (.ret))
  (.seq (.reg [⟨some 90, .ar .eql (.s 27) (.c (.int .i64 5)), none⟩,
    ⟨some 89, .mv false (.s 90), none⟩] [82, 90])
  (.cond (.s 89) (.seq (.reg [⟨some 91, .mv false (.s 0), none⟩,
    ⟨some 92, .fa 4 (.s 5), none⟩,
    ⟨some 93, .ldl false false 1 5 (.s 92), none⟩,
    ⟨some 94, .call 0 n_disk_Disk_Crash [(false, (.s 91)), (false, (.s 93))], none⟩] [27, 89, 91, 92, 93, 94])
  (.reg [⟨some 95, .mv false (.s 1), none⟩,
    ⟨some 96, .fa 4 (.s 5), none⟩,
    ⟨some 97, .ldl false false 1 5 (.s 96), none⟩,
    ⟨some 98, .call 0 n_ref09_Disk_Crash [(false, (.s 95)), (false, (.s 97))], none⟩] [95, 96, 97, 98]))
  (.seq (.reg [⟨some 100, .ar .eql (.s 27) (.c (.int .i64 6)), none⟩,
    ⟨some 99, .mv false (.s 100), none⟩] [27, 89, 100])
  (.cond (.s 99) (.seq (.reg [⟨some 102, .mv false (.s 0), none⟩,
    ⟨some 103, .fa 1 (.s 5), none⟩,
    ⟨some 104, .ldl false false 1 5 (.s 103), none⟩,
    ⟨some 105, .call 0 n_disk_Disk_Read [(false, (.s 102)), (false, (.s 104))], none⟩,
    ⟨some 101, .mv true (.s 105), none⟩,
    ⟨some 106, .ext true 0 (.s 101), none⟩,
    ⟨some 107, .ext false 1 (.s 101), none⟩,
    ⟨some 10, .mv true (.s 106), none⟩,
    ⟨some 11, .mv false (.s 107), none⟩] [0, 99, 101, 102, 103, 104, 105, 106, 107])
  (.seq (.reg [⟨some 109, .mv false (.s 1), none⟩,
    ⟨some 110, .fa 1 (.s 5), none⟩,
    ⟨some 111, .ldl false false 1 5 (.s 110), none⟩,
    ⟨some 112, .call 0 n_ref09_Disk_Read [(false, (.s 109)), (false, (.s 111))], none⟩,
    ⟨some 108, .mv true (.s 112), none⟩,
    ⟨some 113, .ext true 0 (.s 108), none⟩,
    ⟨some 114, .ext false 1 (.s 108), none⟩,
    ⟨some 12, .mv true (.s 113), none⟩,
    ⟨some 13, .mv false (.s 114), none⟩] [1, 5, 108, 109, 110, 111, 112, 113, 114])
  (.seq (.reg [⟨some 115, .mv false (.s 11), none⟩,
    ⟨some 116, .mv false (.s 13), none⟩,
    ⟨some 117, .ar .eql (.s 115) (.s 116), none⟩,
    ⟨some 118, .mv false (.s 117), none⟩,
    ⟨some 119, .mv false (.s 10), (some (118, true))⟩,
    ⟨some 120, .mv false (.s 12), (some (118, true))⟩,
    ⟨some 121, .call 0 n_slices_Equal_byte_byte [(false, (.s 119)), (false, (.s 120))], (some (118, true))⟩,
    ⟨some 122, .pick (.s 118) (.s 121) (.c (.bool false)), none⟩,
    ⟨some 14, .mv false (.s 122), none⟩] [11, 12, 13, 115, 116, 117, 118, 119, 120, 121, 122])
  (.seq (.seq (.reg [⟨some 123, .mv false (.s 10), none⟩,
    ⟨some 124, .len false (.s 123), none⟩,
    ⟨some 125, .mv false (.c (.int .i64 0)), none⟩] [123])
  (.block 3 (.loop lp_law09_do_2)))
  (.seq (.reg [⟨some 132, .mv false (.s 14), none⟩,
    ⟨some 6, .mv false (.s 132), none⟩] [])
  (.ret))))))
  (.skip)))))))))))
def jn_law09_do_4 : TC :=
  .seq (.reg [⟨some 133, .mv false (.s 0), none⟩,
    ⟨some 134, .fa 1 (.s 5), none⟩,
    ⟨some 135, .ldl false false 1 5 (.s 134), none⟩,
    ⟨some 136, .call 0 n_disk_Disk_Size [(false, (.s 133)), (false, (.s 135))], none⟩,
    ⟨some 137, .mv false (.s 1), none⟩,
    ⟨some 138, .fa 1 (.s 5), none⟩,
    ⟨some 139, .ldl false false 1 5 (.s 138), none⟩,
    ⟨some 140, .call 0 n_ref09_Disk_Size [(false, (.s 137)), (false, (.s 139))], none⟩,
    ⟨some 141, .ar .eql (.s 136) (.s 140), none⟩,
    ⟨some 6, .mv false (.s 141), none⟩] [])
  (.ret)
def tf_law09_do : TF := ⟨142, [.tmp 6],
  .seq (.reg [⟨some 5, .lbx true (.s 2), none⟩,
    ⟨some 6, .mv false (.c (.bool false)), none⟩] [2, 6, 9, 15, 48, 49, 50, 51, 52, 53, 54, 125, 126, 127, 128, 129, 130, 131])
  (.seq (.seq (.reg [⟨some 16, .fa 3 (.s 5), none⟩,
    ⟨some 17, .ldl false false 1 5 (.s 16), none⟩,
    ⟨some 18, .len false (.s 17), none⟩,
    ⟨some 19, .ar .gtr (.s 18) (.c (.int .i64 600)), none⟩,
    ⟨some 20, .mv false (.s 19), none⟩,
    ⟨some 21, .fa 4 (.s 5), (some (20, false))⟩,
    ⟨some 22, .ldl false false 1 5 (.s 21), (some (20, false))⟩,
    ⟨some 23, .len false (.s 22), (some (20, false))⟩,
    ⟨some 24, .ar .gtr (.s 23) (.c (.int .i64 30)), (some (20, false))⟩,
    ⟨some 25, .pick (.s 20) (.c (.bool true)) (.s 24), none⟩] [16, 17, 18, 19, 20, 21, 22, 23, 24])
  (.cond (.s 25) (.seq (.reg [⟨some 6, .mv false (.c (.bool true)), none⟩] [])
  (.ret))
  (.skip)))
  (.seq (.seq (.reg [⟨some 26, .fa 0 (.s 5), none⟩,
    ⟨some 27, .ldl false false 1 5 (.s 26), none⟩] [25, 26])
  (.block 0 (.seq (.seq (.reg [⟨some 29, .ar .eql (.s 27) (.c (.int .i64 0)), none⟩,
    ⟨some 28, .mv false (.s 29), none⟩] [29])
  (.cond (.s 28) (.skip)
  (.reg [⟨some 30, .ar .eql (.s 27) (.c (.int .i64 1)), none⟩,
    ⟨some 28, .mv false (.s 30), none⟩] [30])))
  (jn_law09_do_3))))
  (jn_law09_do_4))), true⟩
/-- bailey/baileylaw09.same -/
def lp_law09_same_1 : TC :=
  .seq (.reg [⟨some 14, .ar .lss (.s 13) (.s 12), none⟩] [])
  (.seq (.cond (.s 14) (.skip)
  (.exit 0))
  (.seq (.block 1 (.seq (.reg [⟨some 15, .mv false (.s 13), none⟩,
    ⟨some 5, .mv false (.s 15), none⟩] [14, 15])
  (.seq (.reg [⟨some 17, .mv false (.s 0), none⟩,
    ⟨some 18, .mv false (.s 5), none⟩,
    ⟨some 19, .call 3 n_disk_Disk_Read [(false, (.s 17)), (false, (.s 18))], none⟩,
    ⟨some 16, .mv true (.s 19), none⟩,
    ⟨some 20, .ext true 0 (.s 16), none⟩,
    ⟨some 21, .ext false 1 (.s 16), none⟩,
    ⟨some 6, .mv true (.s 20), none⟩,
    ⟨some 7, .mv false (.s 21), none⟩] [16, 17, 18, 19, 20, 21])
  (.seq (.reg [⟨some 22, .mv false (.s 7), none⟩,
    ⟨some 23, .ar .neq (.s 22) (.c (.int .i64 0)), none⟩,
    ⟨some 24, .mv false (.s 23), none⟩,
    ⟨some 25, .mv false (.s 6), (some (24, false))⟩,
    ⟨some 26, .mv false (.s 1), (some (24, false))⟩,
    ⟨some 27, .nilc (.s 26), (some (24, false))⟩,
    ⟨some 28, .fa 0 (.s 27), (some (24, false))⟩,
    ⟨some 29, .ldh false false 1 (.s 28), (some (24, false))⟩,
    ⟨some 30, .mv false (.s 5), (some (24, false))⟩,
    ⟨some 31, .ia 1 (.s 29) (.s 30), (some (24, false))⟩,
    ⟨some 32, .ldh false false 1 (.s 31), (some (24, false))⟩,
    ⟨some 33, .call 0 n_slices_Equal_byte_byte [(false, (.s 25)), (false, (.s 32))], (some (24, false))⟩,
    ⟨some 34, .not (.s 33), (some (24, false))⟩,
    ⟨some 35, .pick (.s 24) (.c (.bool true)) (.s 34), none⟩,
    ⟨some 36, .mv false (.s 35), none⟩,
    ⟨some 37, .mv false (.s 0), (some (36, false))⟩,
    ⟨some 38, .mv false (.s 5), (some (36, false))⟩,
    ⟨some 39, .call 1 n_disk_Disk_Size [(false, (.s 37)), (false, (.s 38))], (some (36, false))⟩,
    ⟨some 40, .mv false (.s 1), (some (36, false))⟩,
    ⟨some 41, .nilc (.s 40), (some (36, false))⟩,
    ⟨some 42, .fa 0 (.s 41), (some (36, false))⟩,
    ⟨some 43, .ldh false false 1 (.s 42), (some (36, false))⟩,
    ⟨some 44, .mv false (.s 5), (some (36, false))⟩,
    ⟨some 45, .ia 1 (.s 43) (.s 44), (some (36, false))⟩,
    ⟨some 46, .ldh false false 1 (.s 45), (some (36, false))⟩,
    ⟨some 47, .len false (.s 46), (some (36, false))⟩,
    ⟨some 48, .ar .neq (.s 39) (.s 47), (some (36, false))⟩,
    ⟨some 49, .pick (.s 36) (.c (.bool true)) (.s 48), none⟩] [5, 6, 7, 22, 23, 24, 25, 26, 27, 28, 29, 30, 31, 32, 33, 34, 35, 36, 37, 38, 39, 40, 41, 42, 43, 44, 45, 46, 47, 48])
  (.cond (.s 49) (.seq (.reg [⟨some 4, .mv false (.c (.bool false)), none⟩] [])
  (.ret))
  (.skip))))))
  (.reg [⟨some 50, .ar .add (.s 13) (.c (.int .i64 1)), none⟩,
    ⟨some 13, .mv false (.s 50), none⟩] [49, 50])))
def tf_law09_same : TF := ⟨75, [.tmp 4],
  .seq (.reg [⟨some 4, .mv false (.c (.bool false)), none⟩] [4, 5, 6, 7, 13, 14, 15, 16, 17, 18, 19, 20, 21, 22, 23, 24, 25, 26, 27, 28, 29, 30, 31, 32, 33, 34, 35, 36, 37, 38, 39, 40, 41, 42, 43, 44, 45, 46, 47, 48, 49, 50])
  (.seq (.seq (.reg [⟨some 8, .mv false (.s 1), none⟩,
    ⟨some 9, .nilc (.s 8), none⟩,
    ⟨some 10, .fa 0 (.s 9), none⟩,
    ⟨some 11, .ldh false false 1 (.s 10), none⟩,
    ⟨some 12, .len false (.s 11), none⟩,
    ⟨some 13, .mv false (.c (.int .i64 0)), none⟩] [8, 9, 10, 11])
  (.block 0 (.loop lp_law09_same_1)))
  (.seq (.reg [⟨some 51, .mv false (.s 0), none⟩,
    ⟨some 52, .call 0 n_disk_Disk_Loose [(false, (.s 51))], none⟩,
    ⟨some 53, .mv false (.s 1), none⟩,
    ⟨some 54, .call 0 n_ref09_Disk_Loose [(false, (.s 53))], none⟩,
    ⟨some 55, .ar .eql (.s 52) (.s 54), none⟩,
    ⟨some 56, .mv false (.s 55), none⟩,
    ⟨some 57, .mv false (.s 0), (some (56, true))⟩,
    ⟨some 58, .call 1 n_disk_Disk_Room [(false, (.s 57))], (some (56, true))⟩,
    ⟨some 59, .mv false (.s 1), (some (56, true))⟩,
    ⟨some 60, .nilc (.s 59), (some (56, true))⟩,
    ⟨some 61, .fa 2 (.s 60), (some (56, true))⟩,
    ⟨some 62, .ldh false false 1 (.s 61), (some (56, true))⟩,
    ⟨some 63, .ar .eql (.s 58) (.s 62), (some (56, true))⟩,
    ⟨some 64, .pick (.s 56) (.s 63) (.c (.bool false)), none⟩,
    ⟨some 65, .mv false (.s 64), none⟩,
    ⟨some 66, .mv false (.s 0), (some (65, true))⟩,
    ⟨some 67, .call 1 n_disk_Disk_Slots [(false, (.s 66))], (some (65, true))⟩,
    ⟨some 68, .mv false (.s 1), (some (65, true))⟩,
    ⟨some 69, .nilc (.s 68), (some (65, true))⟩,
    ⟨some 70, .fa 0 (.s 69), (some (65, true))⟩,
    ⟨some 71, .ldh false false 1 (.s 70), (some (65, true))⟩,
    ⟨some 72, .len false (.s 71), (some (65, true))⟩,
    ⟨some 73, .ar .eql (.s 67) (.s 72), (some (65, true))⟩,
    ⟨some 74, .pick (.s 65) (.s 73) (.c (.bool false)), none⟩,
    ⟨some 4, .mv false (.s 74), none⟩] [])
  (.ret))), true⟩
/-- (*bailey/disk.Disk).at -/
def tf_disk_Disk_at : TF := ⟨28, [.tmp 4, .tmp 5],
  .seq (.reg [⟨some 4, .mv false (.c (.nilp)), none⟩,
    ⟨some 5, .mv false (.c (.int .i64 0)), none⟩] [4, 5])
  (.seq (.block 0 (.seq (.reg [⟨some 7, .mv false (.s 0), none⟩,
    ⟨some 8, .call 0 n_disk_Disk_made [(false, (.s 7))], none⟩,
    ⟨some 9, .not (.s 8), none⟩,
    ⟨some 6, .mv false (.s 9), none⟩] [7, 8, 9])
  (.cond (.s 6) (.seq (.reg [⟨some 4, .mv false (.c (.nilp)), none⟩,
    ⟨some 5, .mv false (.c (.int .i64 2)), none⟩] [])
  (.ret))
  (.seq (.reg [⟨some 11, .mv false (.s 1), none⟩,
    ⟨some 12, .ar .lss (.s 11) (.c (.int .i64 0)), none⟩,
    ⟨some 13, .mv false (.s 12), none⟩,
    ⟨some 14, .mv false (.s 1), (some (13, false))⟩,
    ⟨some 15, .mv false (.s 0), (some (13, false))⟩,
    ⟨some 16, .nilc (.s 15), (some (13, false))⟩,
    ⟨some 17, .fa 0 (.s 16), (some (13, false))⟩,
    ⟨some 18, .ldh false false 1 (.s 17), (some (13, false))⟩,
    ⟨some 19, .len false (.s 18), (some (13, false))⟩,
    ⟨some 20, .ar .geq (.s 14) (.s 19), (some (13, false))⟩,
    ⟨some 21, .pick (.s 13) (.c (.bool true)) (.s 20), none⟩,
    ⟨some 10, .mv false (.s 21), none⟩] [6, 11, 12, 13, 14, 15, 16, 17, 18, 19, 20, 21])
  (.cond (.s 10) (.seq (.reg [⟨some 4, .mv false (.c (.nilp)), none⟩,
    ⟨some 5, .mv false (.c (.int .i64 1)), none⟩] [])
  (.ret))
  (.skip))))))
  (.seq (.reg [⟨some 22, .mv false (.s 0), none⟩,
    ⟨some 23, .nilc (.s 22), none⟩,
    ⟨some 24, .fa 0 (.s 23), none⟩,
    ⟨some 25, .ldh false false 1 (.s 24), none⟩,
    ⟨some 26, .mv false (.s 1), none⟩,
    ⟨some 27, .ia 2 (.s 25) (.s 26), none⟩,
    ⟨some 4, .mv false (.s 27), none⟩,
    ⟨some 5, .mv false (.c (.int .i64 0)), none⟩] [])
  (.ret))), true⟩
/-- (*bailey/disk.Disk).all -/
def lp_disk_Disk_all_1 : TC :=
  .seq (.reg [⟨some 14, .ar .lss (.s 13) (.s 12), none⟩] [])
  (.seq (.cond (.s 14) (.skip)
  (.exit 0))
  (.seq (.block 1 (.seq (.reg [⟨some 15, .mv false (.s 13), none⟩,
    ⟨some 4, .mv false (.s 15), none⟩] [14, 15])
  (.reg [⟨some 16, .mv true (.s 3), none⟩,
    ⟨some 17, .mv false (.s 0), none⟩,
    ⟨some 18, .nilc (.s 17), none⟩,
    ⟨some 19, .fa 0 (.s 18), none⟩,
    ⟨some 20, .ldh false false 1 (.s 19), none⟩,
    ⟨some 21, .mv false (.s 4), none⟩,
    ⟨some 22, .ia 2 (.s 20) (.s 21), none⟩,
    ⟨some 23, .bsl false 1 1 [.nilp] [(0, (.s 22))], none⟩,
    ⟨some 24, .app true 1 8 (.s 16) (.s 23), none⟩,
    ⟨some 3, .mv true (.s 24), none⟩] [4, 16, 17, 18, 19, 20, 21, 22, 23, 24])))
  (.reg [⟨some 25, .ar .add (.s 13) (.c (.int .i64 1)), none⟩,
    ⟨some 13, .mv false (.s 25), none⟩] [25])))
def tf_disk_Disk_all : TF := ⟨27, [.tmp 2],
  .seq (.reg [⟨some 2, .mv true (.c (.nils)), none⟩] [2, 3, 4, 13, 14, 15, 16, 17, 18, 19, 20, 21, 22, 23, 24, 25])
  (.seq (.seq (.reg [⟨some 5, .mv false (.s 0), none⟩,
    ⟨some 6, .call 0 n_disk_Disk_made [(false, (.s 5))], none⟩,
    ⟨some 7, .not (.s 6), none⟩] [5, 6])
  (.cond (.s 7) (.seq (.reg [⟨some 2, .mv true (.c (.nils)), none⟩] [])
  (.ret))
  (.skip)))
  (.seq (.reg [⟨some 3, .mv true (.c (.nils)), none⟩] [7])
  (.seq (.seq (.reg [⟨some 8, .mv false (.s 0), none⟩,
    ⟨some 9, .nilc (.s 8), none⟩,
    ⟨some 10, .fa 0 (.s 9), none⟩,
    ⟨some 11, .ldh false false 1 (.s 10), none⟩,
    ⟨some 12, .len false (.s 11), none⟩,
    ⟨some 13, .mv false (.c (.int .i64 0)), none⟩] [8, 9, 10, 11])
  (.block 0 (.loop lp_disk_Disk_all_1)))
  (.seq (.reg [⟨some 26, .mv false (.s 3), none⟩,
    ⟨some 2, .mv true (.s 26), none⟩] [])
  (.ret))))), true⟩
/-- (*bailey/disk.slot).loose -/
def tf_disk_slot_loose : TF := ⟨13, [.tmp 2],
  .seq (.reg [⟨some 2, .mv false (.c (.int .i64 0)), none⟩] [2])
  (.seq (.reg [⟨some 3, .mv false (.s 0), none⟩,
    ⟨some 4, .nilc (.s 3), none⟩,
    ⟨some 5, .fa 0 (.s 4), none⟩,
    ⟨some 6, .ldh false false 1 (.s 5), none⟩,
    ⟨some 7, .len false (.s 6), none⟩,
    ⟨some 8, .mv false (.s 0), none⟩,
    ⟨some 9, .nilc (.s 8), none⟩,
    ⟨some 10, .fa 1 (.s 9), none⟩,
    ⟨some 11, .ldh false false 1 (.s 10), none⟩,
    ⟨some 12, .ar .sub (.s 7) (.s 11), none⟩,
    ⟨some 2, .mv false (.s 12), none⟩] [])
  (.ret)), true⟩
/-- bailey/disk.keeper -/
def tf_disk_keeper : TF := ⟨5, [.tmp 2],
  .seq (.reg [⟨some 1, .hbx true (.s 0), none⟩,
    ⟨some 2, .mv false (.c (.nilf)), none⟩] [0, 2])
  (.seq (.reg [⟨some 3, .hal [.int .i64 0], none⟩,
    ⟨none, .sth false 1 (.s 3) (.c (.int .i64 0)), none⟩] [])
  (.seq (.reg [⟨some 4, .mkf n_disk_keeper_1 [(.s 1), (.s 3)], none⟩,
    ⟨some 2, .mv false (.s 4), none⟩] [])
  (.ret))), true⟩
/-- (*bailey/disk.slot).cut -/
def tf_disk_slot_cut : TF := ⟨23, [],
  .seq (.reg [⟨some 4, .mv false (.s 0), none⟩,
    ⟨some 5, .mv false (.s 0), none⟩,
    ⟨some 6, .nilc (.s 5), none⟩,
    ⟨some 7, .fa 0 (.s 6), none⟩,
    ⟨some 8, .ldh false false 1 (.s 7), none⟩,
    ⟨some 9, .mv false (.s 1), none⟩,
    ⟨some 10, .slc 1 (.s 8) none (some (.s 9)) none, none⟩,
    ⟨some 11, .call 0 n_slices_Clip_byte_byte [(false, (.s 10))], none⟩,
    ⟨some 12, .nilc (.s 4), none⟩,
    ⟨some 13, .fa 0 (.s 12), none⟩,
    ⟨none, .sth true 1 (.s 13) (.s 11), none⟩] [4, 5, 6, 7, 8, 9, 10, 11, 12, 13])
  (.reg [⟨some 14, .mv false (.s 0), none⟩,
    ⟨some 15, .mv false (.s 0), none⟩,
    ⟨some 16, .nilc (.s 15), none⟩,
    ⟨some 17, .fa 1 (.s 16), none⟩,
    ⟨some 18, .ldh false false 1 (.s 17), none⟩,
    ⟨some 19, .mv false (.s 1), none⟩,
    ⟨some 20, .mn (.s 18) (.s 19), none⟩,
    ⟨some 21, .nilc (.s 14), none⟩,
    ⟨some 22, .fa 1 (.s 21), none⟩,
    ⟨none, .sth false 1 (.s 22) (.s 20), none⟩] []), true⟩
/-- (*bailey/disk.Disk).made -/
def tf_disk_Disk_made : TF := ⟨13, [.tmp 2],
  .seq (.reg [⟨some 2, .mv false (.c (.bool false)), none⟩] [2])
  (.seq (.reg [⟨some 3, .mv false (.s 0), none⟩,
    ⟨some 4, .eqp true (.s 3) (.c (.nilp)), none⟩,
    ⟨some 5, .mv false (.s 4), none⟩,
    ⟨some 6, .mv false (.s 0), (some (5, true))⟩,
    ⟨some 7, .nilc (.s 6), (some (5, true))⟩,
    ⟨some 8, .fa 0 (.s 7), (some (5, true))⟩,
    ⟨some 9, .ldh false false 1 (.s 8), (some (5, true))⟩,
    ⟨some 10, .len false (.s 9), (some (5, true))⟩,
    ⟨some 11, .ar .gtr (.s 10) (.c (.int .i64 0)), (some (5, true))⟩,
    ⟨some 12, .pick (.s 5) (.s 11) (.c (.bool false)), none⟩,
    ⟨some 2, .mv false (.s 12), none⟩] [])
  (.ret)), true⟩
/-- (*bailey/baileyref09.Disk).Append -/
def tf_ref09_Disk_Append : TF := ⟨43, [.tmp 6],
  .seq (.reg [⟨some 6, .mv false (.c (.int .i64 0)), none⟩] [6])
  (.seq (.seq (.reg [⟨some 7, .mv false (.s 0), none⟩,
    ⟨some 8, .mv false (.s 1), none⟩,
    ⟨some 9, .call 0 n_ref09_Disk_there [(false, (.s 7)), (false, (.s 8))], none⟩,
    ⟨some 10, .not (.s 9), none⟩] [7, 8, 9])
  (.cond (.s 10) (.seq (.reg [⟨some 6, .mv false (.c (.int .i64 1)), none⟩] [])
  (.ret))
  (.skip)))
  (.seq (.seq (.reg [⟨some 11, .mv false (.s 2), none⟩,
    ⟨some 12, .len false (.s 11), none⟩,
    ⟨some 13, .mv false (.s 0), none⟩,
    ⟨some 14, .nilc (.s 13), none⟩,
    ⟨some 15, .fa 2 (.s 14), none⟩,
    ⟨some 16, .ldh false false 1 (.s 15), none⟩,
    ⟨some 17, .mv false (.s 0), none⟩,
    ⟨some 18, .nilc (.s 17), none⟩,
    ⟨some 19, .fa 0 (.s 18), none⟩,
    ⟨some 20, .ldh false false 1 (.s 19), none⟩,
    ⟨some 21, .mv false (.s 1), none⟩,
    ⟨some 22, .ia 1 (.s 20) (.s 21), none⟩,
    ⟨some 23, .ldh false false 1 (.s 22), none⟩,
    ⟨some 24, .len false (.s 23), none⟩,
    ⟨some 25, .ar .sub (.s 16) (.s 24), none⟩,
    ⟨some 26, .ar .gtr (.s 12) (.s 25), none⟩] [10, 11, 12, 13, 14, 15, 16, 17, 18, 19, 20, 21, 22, 23, 24, 25])
  (.cond (.s 26) (.seq (.reg [⟨some 6, .mv false (.c (.int .i64 7)), none⟩] [])
  (.ret))
  (.skip)))
  (.seq (.reg [⟨some 27, .mv false (.s 0), none⟩,
    ⟨some 28, .nilc (.s 27), none⟩,
    ⟨some 29, .fa 0 (.s 28), none⟩,
    ⟨some 30, .ldh false false 1 (.s 29), none⟩,
    ⟨some 31, .mv false (.s 1), none⟩,
    ⟨some 32, .mv false (.s 0), none⟩,
    ⟨some 33, .nilc (.s 32), none⟩,
    ⟨some 34, .fa 0 (.s 33), none⟩,
    ⟨some 35, .ldh false false 1 (.s 34), none⟩,
    ⟨some 36, .mv false (.s 1), none⟩,
    ⟨some 37, .ia 1 (.s 35) (.s 36), none⟩,
    ⟨some 38, .ldh false false 1 (.s 37), none⟩,
    ⟨some 39, .app true 1 1 (.c (.nils)) (.s 38), none⟩,
    ⟨some 40, .mv false (.s 2), none⟩,
    ⟨some 41, .app true 1 1 (.s 39) (.s 40), none⟩,
    ⟨some 42, .ia 1 (.s 30) (.s 31), none⟩,
    ⟨none, .sth true 1 (.s 42) (.s 41), none⟩] [])
  (.seq (.reg [⟨some 6, .mv false (.c (.int .i64 0)), none⟩] [])
  (.ret))))), true⟩
/-- (*bailey/baileyref09.Disk).Clear -/
def tf_ref09_Disk_Clear : TF := ⟨8, [.tmp 4],
  .seq (.reg [⟨some 4, .mv false (.c (.int .i64 0)), none⟩] [4])
  (.seq (.reg [⟨some 5, .mv false (.s 0), none⟩,
    ⟨some 6, .mv false (.s 1), none⟩,
    ⟨some 7, .call 0 n_ref09_Disk_Cut [(false, (.s 5)), (false, (.s 6)), (false, (.c (.int .i64 0)))], none⟩,
    ⟨some 4, .mv false (.s 7), none⟩] [])
  (.ret)), true⟩
/-- (*bailey/baileyref09.Disk).Cut -/
def tf_ref09_Disk_Cut : TF := ⟨58, [.tmp 6],
  .seq (.reg [⟨some 6, .mv false (.c (.int .i64 0)), none⟩] [6])
  (.seq (.seq (.reg [⟨some 7, .mv false (.s 0), none⟩,
    ⟨some 8, .mv false (.s 1), none⟩,
    ⟨some 9, .call 0 n_ref09_Disk_there [(false, (.s 7)), (false, (.s 8))], none⟩,
    ⟨some 10, .not (.s 9), none⟩,
    ⟨some 11, .mv false (.s 10), none⟩,
    ⟨some 12, .mv false (.s 2), (some (11, false))⟩,
    ⟨some 13, .ar .lss (.s 12) (.c (.int .i64 0)), (some (11, false))⟩,
    ⟨some 14, .pick (.s 11) (.c (.bool true)) (.s 13), none⟩,
    ⟨some 15, .mv false (.s 14), none⟩,
    ⟨some 16, .mv false (.s 2), (some (15, false))⟩,
    ⟨some 17, .mv false (.s 0), (some (15, false))⟩,
    ⟨some 18, .nilc (.s 17), (some (15, false))⟩,
    ⟨some 19, .fa 0 (.s 18), (some (15, false))⟩,
    ⟨some 20, .ldh false false 1 (.s 19), (some (15, false))⟩,
    ⟨some 21, .mv false (.s 1), (some (15, false))⟩,
    ⟨some 22, .ia 1 (.s 20) (.s 21), (some (15, false))⟩,
    ⟨some 23, .ldh false false 1 (.s 22), (some (15, false))⟩,
    ⟨some 24, .len false (.s 23), (some (15, false))⟩,
    ⟨some 25, .ar .gtr (.s 16) (.s 24), (some (15, false))⟩,
    ⟨some 26, .pick (.s 15) (.c (.bool true)) (.s 25), none⟩] [7, 8, 9, 10, 11, 12, 13, 14, 15, 16, 17, 18, 19, 20, 21, 22, 23, 24, 25])
  (.cond (.s 26) (.seq (.reg [⟨some 6, .mv false (.c (.int .i64 1)), none⟩] [])
  (.ret))
  (.skip)))
  (.seq (.reg [⟨some 27, .mv false (.s 0), none⟩,
    ⟨some 28, .nilc (.s 27), none⟩,
    ⟨some 29, .fa 0 (.s 28), none⟩,
    ⟨some 30, .ldh false false 1 (.s 29), none⟩,
    ⟨some 31, .mv false (.s 1), none⟩,
    ⟨some 32, .mv false (.s 0), none⟩,
    ⟨some 33, .nilc (.s 32), none⟩,
    ⟨some 34, .fa 0 (.s 33), none⟩,
    ⟨some 35, .ldh false false 1 (.s 34), none⟩,
    ⟨some 36, .mv false (.s 1), none⟩,
    ⟨some 37, .ia 1 (.s 35) (.s 36), none⟩,
    ⟨some 38, .ldh false false 1 (.s 37), none⟩,
    ⟨some 39, .mv false (.s 2), none⟩,
    ⟨some 40, .slc 1 (.s 38) none (some (.s 39)) none, none⟩,
    ⟨some 41, .app true 1 1 (.c (.nils)) (.s 40), none⟩,
    ⟨some 42, .ia 1 (.s 30) (.s 31), none⟩,
    ⟨none, .sth true 1 (.s 42) (.s 41), none⟩] [26, 27, 28, 29, 30, 31, 32, 33, 34, 35, 36, 37, 38, 39, 40, 41, 42])
  (.seq (.reg [⟨some 43, .mv false (.s 0), none⟩,
    ⟨some 44, .nilc (.s 43), none⟩,
    ⟨some 45, .fa 1 (.s 44), none⟩,
    ⟨some 46, .ldh false false 1 (.s 45), none⟩,
    ⟨some 47, .mv false (.s 1), none⟩,
    ⟨some 48, .mv false (.s 0), none⟩,
    ⟨some 49, .nilc (.s 48), none⟩,
    ⟨some 50, .fa 1 (.s 49), none⟩,
    ⟨some 51, .ldh false false 1 (.s 50), none⟩,
    ⟨some 52, .mv false (.s 1), none⟩,
    ⟨some 53, .ia 1 (.s 51) (.s 52), none⟩,
    ⟨some 54, .ldh false false 1 (.s 53), none⟩,
    ⟨some 55, .mv false (.s 2), none⟩,
    ⟨some 56, .mn (.s 54) (.s 55), none⟩,
    ⟨some 57, .ia 1 (.s 46) (.s 47), none⟩,
    ⟨none, .sth false 1 (.s 57) (.s 56), none⟩] [])
  (.seq (.reg [⟨some 6, .mv false (.c (.int .i64 0)), none⟩] [])
  (.ret))))), true⟩
/-- (*bailey/baileyref09.Disk).Sync -/
def lp_ref09_Disk_Sync_1 : TC :=
  .seq (.seq (.reg [⟨some 7, .mv false (.s 4), none⟩,
    ⟨some 8, .mv false (.s 0), none⟩,
    ⟨some 9, .nilc (.s 8), none⟩,
    ⟨some 10, .fa 0 (.s 9), none⟩,
    ⟨some 11, .ldh false false 1 (.s 10), none⟩,
    ⟨some 12, .len false (.s 11), none⟩,
    ⟨some 13, .ar .lss (.s 7) (.s 12), none⟩] [7, 8, 9, 10, 11, 12])
  (.cond (.s 13) (.skip)
  (.exit 0)))
  (.seq (.block 1 (.reg [⟨some 16, .mv false (.s 0), none⟩,
    ⟨some 17, .nilc (.s 16), none⟩,
    ⟨some 18, .fa 1 (.s 17), none⟩,
    ⟨some 19, .ldh false false 1 (.s 18), none⟩,
    ⟨some 20, .mv false (.s 4), none⟩,
    ⟨some 21, .mv false (.s 0), none⟩,
    ⟨some 22, .nilc (.s 21), none⟩,
    ⟨some 23, .fa 0 (.s 22), none⟩,
    ⟨some 24, .ldh false false 1 (.s 23), none⟩,
    ⟨some 25, .mv false (.s 4), none⟩,
    ⟨some 26, .ia 1 (.s 24) (.s 25), none⟩,
    ⟨some 27, .ldh false false 1 (.s 26), none⟩,
    ⟨some 28, .len false (.s 27), none⟩,
    ⟨some 29, .ia 1 (.s 19) (.s 20), none⟩,
    ⟨none, .sth false 1 (.s 29) (.s 28), none⟩] [13, 16, 17, 18, 19, 20, 21, 22, 23, 24, 25, 26, 27, 28, 29]))
  (.reg [⟨some 14, .mv false (.s 4), none⟩,
    ⟨some 15, .ar .add (.s 14) (.c (.int .i64 1)), none⟩,
    ⟨some 4, .mv false (.s 15), none⟩] [14, 15]))
def tf_ref09_Disk_Sync : TF := ⟨31, [.tmp 2],
  .seq (.reg [⟨some 2, .mv false (.c (.int .i64 0)), none⟩] [2, 4, 7, 8, 9, 10, 11, 12, 13, 14, 15, 16, 17, 18, 19, 20, 21, 22, 23, 24, 25, 26, 27, 28, 29])
  (.seq (.reg [⟨some 5, .mv false (.s 0), none⟩,
    ⟨some 6, .call 0 n_ref09_Disk_Loose [(false, (.s 5))], none⟩,
    ⟨some 3, .mv false (.s 6), none⟩] [5, 6])
  (.seq (.seq (.reg [⟨some 4, .mv false (.c (.int .i64 0)), none⟩] [])
  (.block 0 (.loop lp_ref09_Disk_Sync_1)))
  (.seq (.reg [⟨some 30, .mv false (.s 3), none⟩,
    ⟨some 2, .mv false (.s 30), none⟩] [])
  (.ret)))), true⟩
/-- (*bailey/baileyref09.Disk).Crash -/
def jn_ref09_Disk_Crash_1 : TC :=
  .seq (.reg [⟨some 48, .mv false (.s 4), none⟩,
    ⟨some 49, .ar .add (.s 48) (.c (.int .i64 1)), none⟩,
    ⟨some 4, .mv false (.s 49), none⟩] [6, 37, 48, 49])
  (.seq (.reg [⟨some 50, .mv false (.s 0), none⟩,
    ⟨some 51, .nilc (.s 50), none⟩,
    ⟨some 52, .fa 0 (.s 51), none⟩,
    ⟨some 53, .ldh false false 1 (.s 52), none⟩,
    ⟨some 54, .mv false (.s 5), none⟩,
    ⟨some 55, .mv false (.s 0), none⟩,
    ⟨some 56, .nilc (.s 55), none⟩,
    ⟨some 57, .fa 0 (.s 56), none⟩,
    ⟨some 58, .ldh false false 1 (.s 57), none⟩,
    ⟨some 59, .mv false (.s 5), none⟩,
    ⟨some 60, .ia 1 (.s 58) (.s 59), none⟩,
    ⟨some 61, .ldh false false 1 (.s 60), none⟩,
    ⟨some 62, .mv false (.s 0), none⟩,
    ⟨some 63, .nilc (.s 62), none⟩,
    ⟨some 64, .fa 1 (.s 63), none⟩,
    ⟨some 65, .ldh false false 1 (.s 64), none⟩,
    ⟨some 66, .mv false (.s 5), none⟩,
    ⟨some 67, .ia 1 (.s 65) (.s 66), none⟩,
    ⟨some 68, .ldh false false 1 (.s 67), none⟩,
    ⟨some 69, .mv false (.s 7), none⟩,
    ⟨some 70, .ar .add (.s 68) (.s 69), none⟩,
    ⟨some 71, .slc 1 (.s 61) none (some (.s 70)) none, none⟩,
    ⟨some 72, .app true 1 1 (.c (.nils)) (.s 71), none⟩,
    ⟨some 73, .ia 1 (.s 53) (.s 54), none⟩,
    ⟨none, .sth true 1 (.s 73) (.s 72), none⟩] [7, 50, 51, 52, 53, 54, 55, 56, 57, 58, 59, 60, 61, 62, 63, 64, 65, 66, 67, 68, 69, 70, 71, 72, 73])
  (.reg [⟨some 74, .mv false (.s 0), none⟩,
    ⟨some 75, .nilc (.s 74), none⟩,
    ⟨some 76, .fa 1 (.s 75), none⟩,
    ⟨some 77, .ldh false false 1 (.s 76), none⟩,
    ⟨some 78, .mv false (.s 5), none⟩,
    ⟨some 79, .mv false (.s 0), none⟩,
    ⟨some 80, .nilc (.s 79), none⟩,
    ⟨some 81, .fa 0 (.s 80), none⟩,
    ⟨some 82, .ldh false false 1 (.s 81), none⟩,
    ⟨some 83, .mv false (.s 5), none⟩,
    ⟨some 84, .ia 1 (.s 82) (.s 83), none⟩,
    ⟨some 85, .ldh false false 1 (.s 84), none⟩,
    ⟨some 86, .len false (.s 85), none⟩,
    ⟨some 87, .ia 1 (.s 77) (.s 78), none⟩,
    ⟨none, .sth false 1 (.s 87) (.s 86), none⟩] [74, 75, 76, 77, 78, 79, 80, 81, 82, 83, 84, 85, 86, 87]))
def lp_ref09_Disk_Crash_2 : TC :=
  .seq (.seq (.reg [⟨some 8, .mv false (.s 5), none⟩,
    ⟨some 9, .mv false (.s 0), none⟩,
    ⟨some 10, .nilc (.s 9), none⟩,
    ⟨some 11, .fa 0 (.s 10), none⟩,
    ⟨some 12, .ldh false false 1 (.s 11), none⟩,
    ⟨some 13, .len false (.s 12), none⟩,
    ⟨some 14, .ar .lss (.s 8) (.s 13), none⟩] [8, 9, 10, 11, 12, 13])
  (.cond (.s 14) (.skip)
  (.exit 0)))
  (.seq (.block 1 (.seq (.reg [⟨some 17, .mv false (.s 0), none⟩,
    ⟨some 18, .nilc (.s 17), none⟩,
    ⟨some 19, .fa 0 (.s 18), none⟩,
    ⟨some 20, .ldh false false 1 (.s 19), none⟩,
    ⟨some 21, .mv false (.s 5), none⟩,
    ⟨some 22, .ia 1 (.s 20) (.s 21), none⟩,
    ⟨some 23, .ldh false false 1 (.s 22), none⟩,
    ⟨some 24, .len false (.s 23), none⟩,
    ⟨some 25, .mv false (.s 0), none⟩,
    ⟨some 26, .nilc (.s 25), none⟩,
    ⟨some 27, .fa 1 (.s 26), none⟩,
    ⟨some 28, .ldh false false 1 (.s 27), none⟩,
    ⟨some 29, .mv false (.s 5), none⟩,
    ⟨some 30, .ia 1 (.s 28) (.s 29), none⟩,
    ⟨some 31, .ldh false false 1 (.s 30), none⟩,
    ⟨some 32, .ar .sub (.s 24) (.s 31), none⟩,
    ⟨some 6, .mv false (.s 32), none⟩] [14, 17, 18, 19, 20, 21, 22, 23, 24, 25, 26, 27, 28, 29, 30, 31, 32])
  (.seq (.seq (.reg [⟨some 33, .mv false (.s 6), none⟩,
    ⟨some 34, .ar .eql (.s 33) (.c (.int .i64 0)), none⟩] [33])
  (.cond (.s 34) (.exit 1)
  (.skip)))
  (.seq (.reg [⟨some 7, .mv false (.c (.int .i64 0)), none⟩] [34])
  (.seq (.seq (.reg [⟨some 35, .mv false (.s 1), none⟩,
    ⟨some 36, .len false (.s 35), none⟩,
    ⟨some 37, .ar .gtr (.s 36) (.c (.int .i64 0)), none⟩] [35, 36])
  (.cond (.s 37) (.reg [⟨some 38, .mv false (.s 1), none⟩,
    ⟨some 39, .mv false (.s 4), none⟩,
    ⟨some 40, .mv false (.s 1), none⟩,
    ⟨some 41, .len false (.s 40), none⟩,
    ⟨some 42, .ar .rem (.s 39) (.s 41), none⟩,
    ⟨some 43, .ia 1 (.s 38) (.s 42), none⟩,
    ⟨some 44, .ldh false false 1 (.s 43), none⟩,
    ⟨some 45, .mx (.s 44) (.c (.int .i64 0)), none⟩,
    ⟨some 46, .mv false (.s 6), none⟩,
    ⟨some 47, .mn (.s 45) (.s 46), none⟩,
    ⟨some 7, .mv false (.s 47), none⟩] [6, 37, 38, 39, 40, 41, 42, 43, 44, 45, 46, 47])
  (.skip)))
  (jn_ref09_Disk_Crash_1))))))
  (.reg [⟨some 15, .mv false (.s 5), none⟩,
    ⟨some 16, .ar .add (.s 15) (.c (.int .i64 1)), none⟩,
    ⟨some 5, .mv false (.s 16), none⟩] [6, 15, 16, 34]))
def tf_ref09_Disk_Crash : TF := ⟨88, [],
  .seq (.reg [⟨some 4, .mv false (.c (.int .i64 0)), none⟩] [5, 6, 7, 8, 9, 10, 11, 12, 13, 14, 15, 16, 17, 18, 19, 20, 21, 22, 23, 24, 25, 26, 27, 28, 29, 30, 31, 32, 33, 34, 35, 36, 37, 38, 39, 40, 41, 42, 43, 44, 45, 46, 47, 48, 49, 50, 51, 52, 53, 54, 55, 56, 57, 58, 59, 60, 61, 62, 63, 64, 65, 66, 67, 68, 69, 70, 71, 72, 73, 74, 75, 76, 77, 78, 79, 80, 81, 82, 83, 84, 85, 86, 87])
  (.seq (.reg [⟨some 5, .mv false (.c (.int .i64 0)), none⟩] [])
  (.block 0 (.loop lp_ref09_Disk_Crash_2))), true⟩
/-- (*bailey/baileyref09.Disk).Read -/
def tf_ref09_Disk_Read : TF := ⟨18, [.tmp 4, .tmp 5],
  .seq (.reg [⟨some 4, .mv true (.c (.nils)), none⟩,
    ⟨some 5, .mv false (.c (.int .i64 0)), none⟩] [4, 5])
  (.seq (.seq (.reg [⟨some 6, .mv false (.s 0), none⟩,
    ⟨some 7, .mv false (.s 1), none⟩,
    ⟨some 8, .call 0 n_ref09_Disk_there [(false, (.s 6)), (false, (.s 7))], none⟩,
    ⟨some 9, .not (.s 8), none⟩] [6, 7, 8])
  (.cond (.s 9) (.seq (.reg [⟨some 4, .mv true (.c (.nils)), none⟩,
    ⟨some 5, .mv false (.c (.int .i64 1)), none⟩] [])
  (.ret))
  (.skip)))
  (.seq (.reg [⟨some 10, .mv false (.s 0), none⟩,
    ⟨some 11, .nilc (.s 10), none⟩,
    ⟨some 12, .fa 0 (.s 11), none⟩,
    ⟨some 13, .ldh false false 1 (.s 12), none⟩,
    ⟨some 14, .mv false (.s 1), none⟩,
    ⟨some 15, .ia 1 (.s 13) (.s 14), none⟩,
    ⟨some 16, .ldh false false 1 (.s 15), none⟩,
    ⟨some 17, .app true 1 1 (.c (.nils)) (.s 16), none⟩,
    ⟨some 4, .mv true (.s 17), none⟩,
    ⟨some 5, .mv false (.c (.int .i64 0)), none⟩] [])
  (.ret))), true⟩
/-- (*bailey/baileyref09.Disk).Size -/
def tf_ref09_Disk_Size : TF := ⟨17, [.tmp 4],
  .seq (.reg [⟨some 4, .mv false (.c (.int .i64 0)), none⟩] [4])
  (.seq (.seq (.reg [⟨some 5, .mv false (.s 0), none⟩,
    ⟨some 6, .mv false (.s 1), none⟩,
    ⟨some 7, .call 0 n_ref09_Disk_there [(false, (.s 5)), (false, (.s 6))], none⟩,
    ⟨some 8, .not (.s 7), none⟩] [5, 6, 7])
  (.cond (.s 8) (.seq (.reg [⟨some 4, .mv false (.c (.int .i64 0)), none⟩] [])
  (.ret))
  (.skip)))
  (.seq (.reg [⟨some 9, .mv false (.s 0), none⟩,
    ⟨some 10, .nilc (.s 9), none⟩,
    ⟨some 11, .fa 0 (.s 10), none⟩,
    ⟨some 12, .ldh false false 1 (.s 11), none⟩,
    ⟨some 13, .mv false (.s 1), none⟩,
    ⟨some 14, .ia 1 (.s 12) (.s 13), none⟩,
    ⟨some 15, .ldh false false 1 (.s 14), none⟩,
    ⟨some 16, .len false (.s 15), none⟩,
    ⟨some 4, .mv false (.s 16), none⟩] [])
  (.ret))), true⟩
/-- (*bailey/baileyref09.Disk).Loose -/
def lp_ref09_Disk_Loose_1 : TC :=
  .seq (.seq (.reg [⟨some 5, .mv false (.s 4), none⟩,
    ⟨some 6, .mv false (.s 0), none⟩,
    ⟨some 7, .nilc (.s 6), none⟩,
    ⟨some 8, .fa 0 (.s 7), none⟩,
    ⟨some 9, .ldh false false 1 (.s 8), none⟩,
    ⟨some 10, .len false (.s 9), none⟩,
    ⟨some 11, .ar .lss (.s 5) (.s 10), none⟩] [5, 6, 7, 8, 9, 10])
  (.cond (.s 11) (.skip)
  (.exit 0)))
  (.seq (.block 1 (.reg [⟨some 14, .mv false (.s 3), none⟩,
    ⟨some 15, .mv false (.s 0), none⟩,
    ⟨some 16, .nilc (.s 15), none⟩,
    ⟨some 17, .fa 0 (.s 16), none⟩,
    ⟨some 18, .ldh false false 1 (.s 17), none⟩,
    ⟨some 19, .mv false (.s 4), none⟩,
    ⟨some 20, .ia 1 (.s 18) (.s 19), none⟩,
    ⟨some 21, .ldh false false 1 (.s 20), none⟩,
    ⟨some 22, .len false (.s 21), none⟩,
    ⟨some 23, .ar .add (.s 14) (.s 22), none⟩,
    ⟨some 24, .mv false (.s 0), none⟩,
    ⟨some 25, .nilc (.s 24), none⟩,
    ⟨some 26, .fa 1 (.s 25), none⟩,
    ⟨some 27, .ldh false false 1 (.s 26), none⟩,
    ⟨some 28, .mv false (.s 4), none⟩,
    ⟨some 29, .ia 1 (.s 27) (.s 28), none⟩,
    ⟨some 30, .ldh false false 1 (.s 29), none⟩,
    ⟨some 31, .ar .sub (.s 23) (.s 30), none⟩,
    ⟨some 3, .mv false (.s 31), none⟩] [11, 14, 15, 16, 17, 18, 19, 20, 21, 22, 23, 24, 25, 26, 27, 28, 29, 30, 31]))
  (.reg [⟨some 12, .mv false (.s 4), none⟩,
    ⟨some 13, .ar .add (.s 12) (.c (.int .i64 1)), none⟩,
    ⟨some 4, .mv false (.s 13), none⟩] [12, 13]))
def tf_ref09_Disk_Loose : TF := ⟨33, [.tmp 2],
  .seq (.reg [⟨some 2, .mv false (.c (.int .i64 0)), none⟩] [2, 3, 4, 5, 6, 7, 8, 9, 10, 11, 12, 13, 14, 15, 16, 17, 18, 19, 20, 21, 22, 23, 24, 25, 26, 27, 28, 29, 30, 31])
  (.seq (.reg [⟨some 3, .mv false (.c (.int .i64 0)), none⟩] [])
  (.seq (.seq (.reg [⟨some 4, .mv false (.c (.int .i64 0)), none⟩] [])
  (.block 0 (.loop lp_ref09_Disk_Loose_1)))
  (.seq (.reg [⟨some 32, .mv false (.s 3), none⟩,
    ⟨some 2, .mv false (.s 32), none⟩] [])
  (.ret)))), true⟩
/-- bailey/disk.keeper$1 -/
def tf_disk_keeper_1 : TF := ⟨22, [.tmp 4],
  .seq (.reg [⟨some 4, .mv false (.c (.int .i64 0)), none⟩] [4])
  (.seq (.seq (.reg [⟨some 6, .ldh false false 1 (.s 1), none⟩,
    ⟨some 7, .len false (.s 6), none⟩,
    ⟨some 8, .ar .eql (.s 7) (.c (.int .i64 0)), none⟩] [6, 7])
  (.cond (.s 8) (.seq (.reg [⟨some 4, .mv false (.c (.int .i64 0)), none⟩] [])
  (.ret))
  (.skip)))
  (.seq (.reg [⟨some 9, .ldh false false 1 (.s 1), none⟩,
    ⟨some 10, .ldh false false 1 (.s 2), none⟩,
    ⟨some 11, .ldh false false 1 (.s 1), none⟩,
    ⟨some 12, .len false (.s 11), none⟩,
    ⟨some 13, .ar .rem (.s 10) (.s 12), none⟩,
    ⟨some 14, .ia 1 (.s 9) (.s 13), none⟩,
    ⟨some 15, .ldh false false 1 (.s 14), none⟩,
    ⟨some 5, .mv false (.s 15), none⟩] [8, 9, 10, 11, 12, 13, 14, 15])
  (.seq (.reg [⟨some 16, .ldh false false 1 (.s 2), none⟩,
    ⟨some 17, .ar .add (.s 16) (.c (.int .i64 1)), none⟩,
    ⟨none, .sth false 1 (.s 2) (.s 17), none⟩] [16, 17])
  (.seq (.reg [⟨some 18, .mv false (.s 5), none⟩,
    ⟨some 19, .mx (.s 18) (.c (.int .i64 0)), none⟩,
    ⟨some 20, .mv false (.s 0), none⟩,
    ⟨some 21, .mn (.s 19) (.s 20), none⟩,
    ⟨some 4, .mv false (.s 21), none⟩] [])
  (.ret))))), true⟩
/-- slices.Clip[[]byte,byte] -/
def tf_slices_Clip_byte_byte : TF := ⟨9, [.tmp 2],
  .seq (.reg [⟨some 2, .mv true (.c (.nils)), none⟩] [2])
  (.seq (.reg [⟨some 3, .mv false (.s 0), none⟩,
    ⟨some 4, .mv false (.s 0), none⟩,
    ⟨some 5, .len false (.s 4), none⟩,
    ⟨some 6, .mv false (.s 0), none⟩,
    ⟨some 7, .len false (.s 6), none⟩,
    ⟨some 8, .slc 1 (.s 3) none (some (.s 5)) (some (.s 7)), none⟩,
    ⟨some 2, .mv true (.s 8), none⟩] [])
  (.ret)), true⟩
/-- (*bailey/baileyref09.Disk).there -/
def tf_ref09_Disk_there : TF := ⟨16, [.tmp 4],
  .seq (.reg [⟨some 4, .mv false (.c (.bool false)), none⟩] [4])
  (.seq (.reg [⟨some 5, .mv false (.s 1), none⟩,
    ⟨some 6, .ar .geq (.s 5) (.c (.int .i64 0)), none⟩,
    ⟨some 7, .mv false (.s 6), none⟩,
    ⟨some 8, .mv false (.s 1), (some (7, true))⟩,
    ⟨some 9, .mv false (.s 0), (some (7, true))⟩,
    ⟨some 10, .nilc (.s 9), (some (7, true))⟩,
    ⟨some 11, .fa 0 (.s 10), (some (7, true))⟩,
    ⟨some 12, .ldh false false 1 (.s 11), (some (7, true))⟩,
    ⟨some 13, .len false (.s 12), (some (7, true))⟩,
    ⟨some 14, .ar .lss (.s 8) (.s 13), (some (7, true))⟩,
    ⟨some 15, .pick (.s 7) (.s 14) (.c (.bool false)), none⟩,
    ⟨some 4, .mv false (.s 15), none⟩] [])
  (.ret)), true⟩
theorem ok_law09_DiskApart : chkF Go.Proofs.Try.prog n_law09_DiskApart tf_law09_DiskApart = true := by kernel_rfl
theorem ok_law09_DiskStays : chkF Go.Proofs.Try.prog n_law09_DiskStays tf_law09_DiskStays = true := by kernel_rfl
theorem ok_law09_DiskNobody : chkF Go.Proofs.Try.prog n_law09_DiskNobody tf_law09_DiskNobody = true := by kernel_rfl
theorem ok_law09_DiskLives : chkF Go.Proofs.Try.prog n_law09_DiskLives tf_law09_DiskLives = true := by kernel_rfl
theorem ok_law09_DiskCopies : chkF Go.Proofs.Try.prog n_law09_DiskCopies tf_law09_DiskCopies = true := by kernel_rfl
theorem ok_law09_awake : chkF Go.Proofs.Try.prog n_law09_awake tf_law09_awake = true := by kernel_rfl
theorem ok_disk_New : chkF Go.Proofs.Try.prog n_disk_New tf_disk_New = true := by kernel_rfl
theorem ok_disk_Disk_Append : chkF Go.Proofs.Try.prog n_disk_Disk_Append tf_disk_Disk_Append = true := by kernel_rfl
theorem ok_disk_Disk_Sync : chkF Go.Proofs.Try.prog n_disk_Disk_Sync tf_disk_Disk_Sync = true := by kernel_rfl
theorem ok_disk_Disk_Loose : chkF Go.Proofs.Try.prog n_disk_Disk_Loose tf_disk_Disk_Loose = true := by kernel_rfl
theorem ok_disk_Disk_Crash : chkF Go.Proofs.Try.prog n_disk_Disk_Crash tf_disk_Disk_Crash = true := by kernel_rfl
theorem ok_disk_Disk_Read : chkF Go.Proofs.Try.prog n_disk_Disk_Read tf_disk_Disk_Read = true := by kernel_rfl
theorem ok_slices_Equal_byte_byte : chkF Go.Proofs.Try.prog n_slices_Equal_byte_byte tf_slices_Equal_byte_byte = true := by kernel_rfl
theorem ok_disk_Disk_Clear : chkF Go.Proofs.Try.prog n_disk_Disk_Clear tf_disk_Disk_Clear = true := by kernel_rfl
theorem ok_disk_Disk_Cut : chkF Go.Proofs.Try.prog n_disk_Disk_Cut tf_disk_Disk_Cut = true := by kernel_rfl
theorem ok_disk_Disk_Size : chkF Go.Proofs.Try.prog n_disk_Disk_Size tf_disk_Disk_Size = true := by kernel_rfl
theorem ok_disk_Disk_Room : chkF Go.Proofs.Try.prog n_disk_Disk_Room tf_disk_Disk_Room = true := by kernel_rfl
theorem ok_disk_Disk_Slots : chkF Go.Proofs.Try.prog n_disk_Disk_Slots tf_disk_Disk_Slots = true := by kernel_rfl
theorem ok_disk_Disk_Copy : chkF Go.Proofs.Try.prog n_disk_Disk_Copy tf_disk_Disk_Copy = true := by kernel_rfl
theorem ok_law09_do : chkF Go.Proofs.Try.prog n_law09_do tf_law09_do = true := by kernel_rfl
theorem ok_law09_same : chkF Go.Proofs.Try.prog n_law09_same tf_law09_same = true := by kernel_rfl
theorem ok_disk_Disk_at : chkF Go.Proofs.Try.prog n_disk_Disk_at tf_disk_Disk_at = true := by kernel_rfl
theorem ok_disk_Disk_all : chkF Go.Proofs.Try.prog n_disk_Disk_all tf_disk_Disk_all = true := by kernel_rfl
theorem ok_disk_slot_loose : chkF Go.Proofs.Try.prog n_disk_slot_loose tf_disk_slot_loose = true := by kernel_rfl
theorem ok_disk_keeper : chkF Go.Proofs.Try.prog n_disk_keeper tf_disk_keeper = true := by kernel_rfl
theorem ok_disk_slot_cut : chkF Go.Proofs.Try.prog n_disk_slot_cut tf_disk_slot_cut = true := by kernel_rfl
theorem ok_disk_Disk_made : chkF Go.Proofs.Try.prog n_disk_Disk_made tf_disk_Disk_made = true := by kernel_rfl
theorem ok_ref09_Disk_Append : chkF Go.Proofs.Try.prog n_ref09_Disk_Append tf_ref09_Disk_Append = true := by kernel_rfl
theorem ok_ref09_Disk_Clear : chkF Go.Proofs.Try.prog n_ref09_Disk_Clear tf_ref09_Disk_Clear = true := by kernel_rfl
theorem ok_ref09_Disk_Cut : chkF Go.Proofs.Try.prog n_ref09_Disk_Cut tf_ref09_Disk_Cut = true := by kernel_rfl
theorem ok_ref09_Disk_Sync : chkF Go.Proofs.Try.prog n_ref09_Disk_Sync tf_ref09_Disk_Sync = true := by kernel_rfl
theorem ok_ref09_Disk_Crash : chkF Go.Proofs.Try.prog n_ref09_Disk_Crash tf_ref09_Disk_Crash = true := by kernel_rfl
theorem ok_ref09_Disk_Read : chkF Go.Proofs.Try.prog n_ref09_Disk_Read tf_ref09_Disk_Read = true := by kernel_rfl
theorem ok_ref09_Disk_Size : chkF Go.Proofs.Try.prog n_ref09_Disk_Size tf_ref09_Disk_Size = true := by kernel_rfl
theorem ok_ref09_Disk_Loose : chkF Go.Proofs.Try.prog n_ref09_Disk_Loose tf_ref09_Disk_Loose = true := by kernel_rfl
theorem ok_disk_keeper_1 : chkF Go.Proofs.Try.prog n_disk_keeper_1 tf_disk_keeper_1 = true := by kernel_rfl
theorem ok_slices_Clip_byte_byte : chkF Go.Proofs.Try.prog n_slices_Clip_byte_byte tf_slices_Clip_byte_byte = true := by kernel_rfl
theorem ok_ref09_Disk_there : chkF Go.Proofs.Try.prog n_ref09_Disk_there tf_ref09_Disk_there = true := by kernel_rfl
def tab : Nat → Option TF := fun f => match f with
  | 3 => some tf_law09_DiskApart
  | 4 => some tf_law09_DiskStays
  | 5 => some tf_law09_DiskNobody
  | 6 => some tf_law09_DiskLives
  | 7 => some tf_law09_DiskCopies
  | 8 => some tf_law09_awake
  | 9 => some tf_disk_New
  | 10 => some tf_disk_Disk_Append
  | 11 => some tf_disk_Disk_Sync
  | 12 => some tf_disk_Disk_Loose
  | 13 => some tf_disk_Disk_Crash
  | 14 => some tf_disk_Disk_Read
  | 16 => some tf_slices_Equal_byte_byte
  | 17 => some tf_disk_Disk_Clear
  | 18 => some tf_disk_Disk_Cut
  | 19 => some tf_disk_Disk_Size
  | 20 => some tf_disk_Disk_Room
  | 21 => some tf_disk_Disk_Slots
  | 22 => some tf_disk_Disk_Copy
  | 24 => some tf_law09_do
  | 25 => some tf_law09_same
  | 26 => some tf_disk_Disk_at
  | 27 => some tf_disk_Disk_all
  | 28 => some tf_disk_slot_loose
  | 29 => some tf_disk_keeper
  | 30 => some tf_disk_slot_cut
  | 31 => some tf_disk_Disk_made
  | 32 => some tf_ref09_Disk_Append
  | 33 => some tf_ref09_Disk_Clear
  | 34 => some tf_ref09_Disk_Cut
  | 35 => some tf_ref09_Disk_Sync
  | 36 => some tf_ref09_Disk_Crash
  | 37 => some tf_ref09_Disk_Read
  | 38 => some tf_ref09_Disk_Size
  | 39 => some tf_ref09_Disk_Loose
  | 40 => some tf_disk_keeper_1
  | 41 => some tf_slices_Clip_byte_byte
  | 42 => some tf_ref09_Disk_there
  | _ => none
theorem tabOk : TabSound Go.Proofs.Try.prog tab := by
  intro f tf h
  unfold tab at h
  split at h
  · obtain rfl := Option.some.inj h; exact ok_law09_DiskApart
  · obtain rfl := Option.some.inj h; exact ok_law09_DiskStays
  · obtain rfl := Option.some.inj h; exact ok_law09_DiskNobody
  · obtain rfl := Option.some.inj h; exact ok_law09_DiskLives
  · obtain rfl := Option.some.inj h; exact ok_law09_DiskCopies
  · obtain rfl := Option.some.inj h; exact ok_law09_awake
  · obtain rfl := Option.some.inj h; exact ok_disk_New
  · obtain rfl := Option.some.inj h; exact ok_disk_Disk_Append
  · obtain rfl := Option.some.inj h; exact ok_disk_Disk_Sync
  · obtain rfl := Option.some.inj h; exact ok_disk_Disk_Loose
  · obtain rfl := Option.some.inj h; exact ok_disk_Disk_Crash
  · obtain rfl := Option.some.inj h; exact ok_disk_Disk_Read
  · obtain rfl := Option.some.inj h; exact ok_slices_Equal_byte_byte
  · obtain rfl := Option.some.inj h; exact ok_disk_Disk_Clear
  · obtain rfl := Option.some.inj h; exact ok_disk_Disk_Cut
  · obtain rfl := Option.some.inj h; exact ok_disk_Disk_Size
  · obtain rfl := Option.some.inj h; exact ok_disk_Disk_Room
  · obtain rfl := Option.some.inj h; exact ok_disk_Disk_Slots
  · obtain rfl := Option.some.inj h; exact ok_disk_Disk_Copy
  · obtain rfl := Option.some.inj h; exact ok_law09_do
  · obtain rfl := Option.some.inj h; exact ok_law09_same
  · obtain rfl := Option.some.inj h; exact ok_disk_Disk_at
  · obtain rfl := Option.some.inj h; exact ok_disk_Disk_all
  · obtain rfl := Option.some.inj h; exact ok_disk_slot_loose
  · obtain rfl := Option.some.inj h; exact ok_disk_keeper
  · obtain rfl := Option.some.inj h; exact ok_disk_slot_cut
  · obtain rfl := Option.some.inj h; exact ok_disk_Disk_made
  · obtain rfl := Option.some.inj h; exact ok_ref09_Disk_Append
  · obtain rfl := Option.some.inj h; exact ok_ref09_Disk_Clear
  · obtain rfl := Option.some.inj h; exact ok_ref09_Disk_Cut
  · obtain rfl := Option.some.inj h; exact ok_ref09_Disk_Sync
  · obtain rfl := Option.some.inj h; exact ok_ref09_Disk_Crash
  · obtain rfl := Option.some.inj h; exact ok_ref09_Disk_Read
  · obtain rfl := Option.some.inj h; exact ok_ref09_Disk_Size
  · obtain rfl := Option.some.inj h; exact ok_ref09_Disk_Loose
  · obtain rfl := Option.some.inj h; exact ok_disk_keeper_1
  · obtain rfl := Option.some.inj h; exact ok_slices_Clip_byte_byte
  · obtain rfl := Option.some.inj h; exact ok_ref09_Disk_there
  · cases h
theorem tab_law09_DiskApart : tab n_law09_DiskApart = some tf_law09_DiskApart := rfl
theorem tab_law09_DiskStays : tab n_law09_DiskStays = some tf_law09_DiskStays := rfl
theorem tab_law09_DiskNobody : tab n_law09_DiskNobody = some tf_law09_DiskNobody := rfl
theorem tab_law09_DiskLives : tab n_law09_DiskLives = some tf_law09_DiskLives := rfl
theorem tab_law09_DiskCopies : tab n_law09_DiskCopies = some tf_law09_DiskCopies := rfl
theorem tab_law09_awake : tab n_law09_awake = some tf_law09_awake := rfl
theorem tab_disk_New : tab n_disk_New = some tf_disk_New := rfl
theorem tab_disk_Disk_Append : tab n_disk_Disk_Append = some tf_disk_Disk_Append := rfl
theorem tab_disk_Disk_Sync : tab n_disk_Disk_Sync = some tf_disk_Disk_Sync := rfl
theorem tab_disk_Disk_Loose : tab n_disk_Disk_Loose = some tf_disk_Disk_Loose := rfl
theorem tab_disk_Disk_Crash : tab n_disk_Disk_Crash = some tf_disk_Disk_Crash := rfl
theorem tab_disk_Disk_Read : tab n_disk_Disk_Read = some tf_disk_Disk_Read := rfl
theorem tab_slices_Equal_byte_byte : tab n_slices_Equal_byte_byte = some tf_slices_Equal_byte_byte := rfl
theorem tab_disk_Disk_Clear : tab n_disk_Disk_Clear = some tf_disk_Disk_Clear := rfl
theorem tab_disk_Disk_Cut : tab n_disk_Disk_Cut = some tf_disk_Disk_Cut := rfl
theorem tab_disk_Disk_Size : tab n_disk_Disk_Size = some tf_disk_Disk_Size := rfl
theorem tab_disk_Disk_Room : tab n_disk_Disk_Room = some tf_disk_Disk_Room := rfl
theorem tab_disk_Disk_Slots : tab n_disk_Disk_Slots = some tf_disk_Disk_Slots := rfl
theorem tab_disk_Disk_Copy : tab n_disk_Disk_Copy = some tf_disk_Disk_Copy := rfl
theorem tab_law09_do : tab n_law09_do = some tf_law09_do := rfl
theorem tab_law09_same : tab n_law09_same = some tf_law09_same := rfl
theorem tab_disk_Disk_at : tab n_disk_Disk_at = some tf_disk_Disk_at := rfl
theorem tab_disk_Disk_all : tab n_disk_Disk_all = some tf_disk_Disk_all := rfl
theorem tab_disk_slot_loose : tab n_disk_slot_loose = some tf_disk_slot_loose := rfl
theorem tab_disk_keeper : tab n_disk_keeper = some tf_disk_keeper := rfl
theorem tab_disk_slot_cut : tab n_disk_slot_cut = some tf_disk_slot_cut := rfl
theorem tab_disk_Disk_made : tab n_disk_Disk_made = some tf_disk_Disk_made := rfl
theorem tab_ref09_Disk_Append : tab n_ref09_Disk_Append = some tf_ref09_Disk_Append := rfl
theorem tab_ref09_Disk_Clear : tab n_ref09_Disk_Clear = some tf_ref09_Disk_Clear := rfl
theorem tab_ref09_Disk_Cut : tab n_ref09_Disk_Cut = some tf_ref09_Disk_Cut := rfl
theorem tab_ref09_Disk_Sync : tab n_ref09_Disk_Sync = some tf_ref09_Disk_Sync := rfl
theorem tab_ref09_Disk_Crash : tab n_ref09_Disk_Crash = some tf_ref09_Disk_Crash := rfl
theorem tab_ref09_Disk_Read : tab n_ref09_Disk_Read = some tf_ref09_Disk_Read := rfl
theorem tab_ref09_Disk_Size : tab n_ref09_Disk_Size = some tf_ref09_Disk_Size := rfl
theorem tab_ref09_Disk_Loose : tab n_ref09_Disk_Loose = some tf_ref09_Disk_Loose := rfl
theorem tab_disk_keeper_1 : tab n_disk_keeper_1 = some tf_disk_keeper_1 := rfl
theorem tab_slices_Clip_byte_byte : tab n_slices_Clip_byte_byte = some tf_slices_Clip_byte_byte := rfl
theorem tab_ref09_Disk_there : tab n_ref09_Disk_there = some tf_ref09_Disk_there := rfl
def ext : Nat → Option CallF := fun f => match f with
  | 15 => some (cloneC false 1 1)
  | _ => none
theorem one_slices_Clone_byte_byte : ExtOne Go.Proofs.Try.prog n_slices_Clone_byte_byte (cloneC false 1 1) := ExtOne.clone (by kernel_rfl)
theorem ext_ord : ExtOrd ext := by
  intro f c h
  unfold ext at h
  split at h
  · obtain rfl := Option.some.inj h; exact one_slices_Clone_byte_byte.ord
  · cases h
theorem ext_snd : ExtSound Go.Proofs.Try.prog ext := by
  intro f c h
  unfold ext at h
  split at h
  · obtain rfl := Option.some.inj h; exact one_slices_Clone_byte_byte.snd
  · cases h
/-- What the program's functions answer. -/
noncomputable abbrev CT : CallF := callT tab ext
end Go.T
