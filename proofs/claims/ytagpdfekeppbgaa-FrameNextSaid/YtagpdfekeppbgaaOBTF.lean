/- The codes of the functions, for the small machine. -/
import Derived.Test.YtagpdfekeppbgaaOM8
import Derived.Test.YtagpdfekeppbgaaProg
import Derived.KernelRfl
set_option maxRecDepth 100000
set_option linter.unusedVariables false
namespace Go.T
abbrev n_law02_PackOne : Nat := 5
abbrev n_law02_PackBack : Nat := 7
abbrev n_law10_FrameNext : Nat := 9
abbrev n_law10_awake : Nat := 12
abbrev n_frame_Seal : Nat := 13
abbrev n_ref10_Seal : Nat := 14
abbrev n_slices_Equal_byte_byte : Nat := 15
abbrev n_law02_awake : Nat := 16
abbrev n_slices_Clone_byte_byte : Nat := 17
abbrev n_pack_Num : Nat := 18
abbrev n_ref02_Num : Nat := 19
abbrev n_pack_Text : Nat := 20
abbrev n_ref02_Text : Nat := 21
abbrev n_pack_Yes : Nat := 22
abbrev n_pack_Size : Nat := 24
abbrev n_pack_Open : Nat := 26
abbrev n_pack_Reader_Num : Nat := 27
abbrev n_pack_Reader_Err : Nat := 28
abbrev n_pack_Reader_Left : Nat := 29
abbrev n_pack_Reader_Fail : Nat := 30
abbrev n_pack_Reader_Text : Nat := 31
abbrev n_pack_Reader_Yes : Nat := 32
abbrev n_ref02_Open : Nat := 34
abbrev n_ref02_Reader_Num : Nat := 35
abbrev n_ref02_Reader_Fail : Nat := 38
abbrev n_ref02_Reader_Left : Nat := 39
abbrev n_ref02_Reader_Err : Nat := 40
abbrev n_frame_Next : Nat := 42
abbrev n_ref10_Next : Nat := 43
abbrev n_frame_sealed : Nat := 48
abbrev n_adler_Sum : Nat := 49
abbrev n_ref05_Sum : Nat := 50
abbrev n_pack_put : Nat := 51
abbrev n_pack_room : Nat := 52
abbrev n_ref02_groups : Nat := 53
abbrev n_ref02_copied : Nat := 54
abbrev n_pack_Reader_works : Nat := 55
abbrev n_pack_Reader_take : Nat := 56
abbrev n_pack_Reader_width : Nat := 57
abbrev n_frame_parted : Nat := 58
abbrev n_adler_More : Nat := 60
abbrev n_ref05_More : Nat := 61
abbrev n_adler_of : Nat := 63
abbrev n_adler_halves_sum : Nat := 64
abbrev n_ref05_low : Nat := 65
abbrev n_ref05_high : Nat := 66
abbrev n_ref05_of : Nat := 67
/-- bailey/baileylaw02.PackOne -/
def tf_law02_PackOne : TF := ⟨66, [.tmp 4],
  .seq (.reg [⟨some 4, .mv false (.c (.bool false)), none⟩] [4])
  (.seq (.seq (.reg [⟨some 8, .mv false (.s 0), none⟩,
    ⟨some 9, .len false (.s 8), none⟩,
    ⟨some 10, .ar .gtr (.s 9) (.c (.int .i64 2000)), none⟩] [8, 9])
  (.cond (.s 10) (.seq (.reg [⟨some 11, .call 2 n_law02_awake [], none⟩,
    ⟨some 4, .mv false (.s 11), none⟩] [])
  (.ret))
  (.skip)))
  (.seq (.reg [⟨some 12, .mv false (.s 0), none⟩,
    ⟨some 13, .call 3 n_slices_Clone_byte_byte [(false, (.s 12))], none⟩,
    ⟨some 14, .call 0 n_pack_Open [(false, (.s 13))], none⟩,
    ⟨some 5, .mv false (.s 14), none⟩] [10, 12, 13, 14])
  (.seq (.reg [⟨some 15, .mv false (.s 5), none⟩,
    ⟨some 16, .mv false (.s 1), none⟩,
    ⟨some 17, .call 0 n_pack_Reader_Num [(false, (.s 15)), (false, (.s 16))], none⟩,
    ⟨some 6, .mv false (.s 17), none⟩] [15, 16, 17])
  (.seq (.seq (.reg [⟨some 18, .mv false (.s 5), none⟩,
    ⟨some 19, .call 0 n_pack_Reader_Err [(false, (.s 18))], none⟩,
    ⟨some 20, .ar .neq (.s 19) (.c (.int .i64 0)), none⟩] [18, 19])
  (.cond (.s 20) (.seq (.reg [⟨some 21, .mv false (.s 6), none⟩,
    ⟨some 22, .ar .eql (.s 21) (.c (.int .i64 0)), none⟩,
    ⟨some 23, .mv false (.s 22), none⟩,
    ⟨some 24, .mv false (.s 5), (some (23, true))⟩,
    ⟨some 25, .call 0 n_pack_Reader_Left [(false, (.s 24))], (some (23, true))⟩,
    ⟨some 26, .ar .eql (.s 25) (.c (.int .i64 0)), (some (23, true))⟩,
    ⟨some 27, .pick (.s 23) (.s 26) (.c (.bool false)), none⟩,
    ⟨some 28, .mv false (.s 27), none⟩,
    ⟨some 29, .call 2 n_law02_awake [], (some (28, true))⟩,
    ⟨some 30, .pick (.s 28) (.s 29) (.c (.bool false)), none⟩,
    ⟨some 4, .mv false (.s 30), none⟩] [])
  (.ret))
  (.skip)))
  (.seq (.reg [⟨some 31, .mv false (.s 0), none⟩,
    ⟨some 32, .len false (.s 31), none⟩,
    ⟨some 33, .mv false (.s 5), none⟩,
    ⟨some 34, .call 0 n_pack_Reader_Left [(false, (.s 33))], none⟩,
    ⟨some 35, .ar .sub (.s 32) (.s 34), none⟩,
    ⟨some 7, .mv false (.s 35), none⟩] [5, 20, 31, 32, 33, 34, 35])
  (.seq (.reg [⟨some 36, .mv false (.s 7), none⟩,
    ⟨some 37, .ar .geq (.s 36) (.c (.int .i64 1)), none⟩,
    ⟨some 38, .mv false (.s 37), none⟩,
    ⟨some 39, .mv false (.s 7), (some (38, true))⟩,
    ⟨some 40, .mv false (.s 0), (some (38, true))⟩,
    ⟨some 41, .len false (.s 40), (some (38, true))⟩,
    ⟨some 42, .ar .leq (.s 39) (.s 41), (some (38, true))⟩,
    ⟨some 43, .pick (.s 38) (.s 42) (.c (.bool false)), none⟩,
    ⟨some 44, .mv false (.s 43), none⟩,
    ⟨some 45, .mv false (.s 6), (some (44, true))⟩,
    ⟨some 46, .mv false (.s 1), (some (44, true))⟩,
    ⟨some 47, .ar .leq (.s 45) (.s 46), (some (44, true))⟩,
    ⟨some 48, .pick (.s 44) (.s 47) (.c (.bool false)), none⟩,
    ⟨some 49, .mv false (.s 48), none⟩,
    ⟨some 50, .mv false (.s 6), (some (49, true))⟩,
    ⟨some 51, .call 0 n_pack_Num [(false, (.c (.nils))), (false, (.s 50))], (some (49, true))⟩,
    ⟨some 52, .mv false (.s 0), (some (49, true))⟩,
    ⟨some 53, .mv false (.s 7), (some (49, true))⟩,
    ⟨some 54, .slc 1 (.s 52) none (some (.s 53)) none, (some (49, true))⟩,
    ⟨some 55, .call 0 n_slices_Equal_byte_byte [(false, (.s 51)), (false, (.s 54))], (some (49, true))⟩,
    ⟨some 56, .pick (.s 49) (.s 55) (.c (.bool false)), none⟩,
    ⟨some 57, .mv false (.s 56), none⟩,
    ⟨some 58, .mv false (.s 6), (some (57, true))⟩,
    ⟨some 59, .call 0 n_pack_Size [(false, (.s 58))], (some (57, true))⟩,
    ⟨some 60, .mv false (.s 7), (some (57, true))⟩,
    ⟨some 61, .ar .eql (.s 59) (.s 60), (some (57, true))⟩,
    ⟨some 62, .pick (.s 57) (.s 61) (.c (.bool false)), none⟩,
    ⟨some 63, .mv false (.s 62), none⟩,
    ⟨some 64, .call 2 n_law02_awake [], (some (63, true))⟩,
    ⟨some 65, .pick (.s 63) (.s 64) (.c (.bool false)), none⟩,
    ⟨some 4, .mv false (.s 65), none⟩] [])
  (.ret))))))), true⟩
/-- bailey/baileylaw02.PackBack -/
def tf_law02_PackBack : TF := ⟨58, [.tmp 8],
  .seq (.reg [⟨some 8, .mv false (.c (.bool false)), none⟩] [8])
  (.seq (.seq (.reg [⟨some 10, .mv false (.s 3), none⟩,
    ⟨some 11, .len false (.s 10), none⟩,
    ⟨some 12, .ar .gtr (.s 11) (.c (.int .i64 2000)), none⟩,
    ⟨some 13, .mv false (.s 12), none⟩,
    ⟨some 14, .mv false (.s 1), (some (13, false))⟩,
    ⟨some 15, .len true (.s 14), (some (13, false))⟩,
    ⟨some 16, .ar .gtr (.s 15) (.c (.int .i64 2000)), (some (13, false))⟩,
    ⟨some 17, .pick (.s 13) (.c (.bool true)) (.s 16), none⟩] [10, 11, 12, 13, 14, 15, 16])
  (.cond (.s 17) (.seq (.reg [⟨some 18, .call 2 n_law02_awake [], none⟩,
    ⟨some 8, .mv false (.s 18), none⟩] [])
  (.ret))
  (.skip)))
  (.seq (.reg [⟨some 19, .mv false (.s 0), none⟩,
    ⟨some 20, .call 0 n_pack_Num [(false, (.c (.nils))), (false, (.s 19))], none⟩,
    ⟨some 21, .mv false (.s 1), none⟩,
    ⟨some 22, .call 0 n_pack_Text [(false, (.s 20)), (false, (.s 21))], none⟩,
    ⟨some 23, .mv false (.s 2), none⟩,
    ⟨some 24, .call 0 n_pack_Yes [(false, (.s 22)), (false, (.s 23))], none⟩,
    ⟨some 25, .mv false (.s 3), none⟩,
    ⟨some 26, .app true 1 1 (.s 24) (.s 25), none⟩,
    ⟨some 27, .call 0 n_pack_Open [(false, (.s 26))], none⟩,
    ⟨some 9, .mv false (.s 27), none⟩] [17, 19, 20, 21, 22, 23, 24, 25, 26, 27])
  (.seq (.seq (.reg [⟨some 28, .mv false (.s 9), none⟩,
    ⟨some 29, .call 0 n_pack_Reader_Num [(false, (.s 28)), (false, (.c (.int .i64 9223372036854775807)))], none⟩,
    ⟨some 30, .mv false (.s 0), none⟩,
    ⟨some 31, .mx (.s 30) (.c (.int .i64 0)), none⟩,
    ⟨some 32, .ar .neq (.s 29) (.s 31), none⟩,
    ⟨some 33, .mv false (.s 32), none⟩,
    ⟨some 34, .mv false (.s 9), (some (33, false))⟩,
    ⟨some 35, .call 0 n_pack_Reader_Text [(false, (.s 34)), (false, (.c (.int .i64 2000)))], (some (33, false))⟩,
    ⟨some 36, .mv false (.s 1), (some (33, false))⟩,
    ⟨some 37, .ar .neq (.s 35) (.s 36), (some (33, false))⟩,
    ⟨some 38, .pick (.s 33) (.c (.bool true)) (.s 37), none⟩,
    ⟨some 39, .mv false (.s 38), none⟩,
    ⟨some 40, .mv false (.s 9), (some (39, false))⟩,
    ⟨some 41, .call 0 n_pack_Reader_Yes [(false, (.s 40))], (some (39, false))⟩,
    ⟨some 42, .mv false (.s 2), (some (39, false))⟩,
    ⟨some 43, .eqb true (.s 41) (.s 42), (some (39, false))⟩,
    ⟨some 44, .pick (.s 39) (.c (.bool true)) (.s 43), none⟩] [0, 1, 2, 28, 29, 30, 31, 32, 33, 34, 35, 36, 37, 38, 39, 40, 41, 42, 43])
  (.cond (.s 44) (.seq (.reg [⟨some 8, .mv false (.c (.bool false)), none⟩] [])
  (.ret))
  (.skip)))
  (.seq (.reg [⟨some 45, .mv false (.s 9), none⟩,
    ⟨some 46, .call 0 n_pack_Reader_Err [(false, (.s 45))], none⟩,
    ⟨some 47, .ar .eql (.s 46) (.c (.int .i64 0)), none⟩,
    ⟨some 48, .mv false (.s 47), none⟩,
    ⟨some 49, .mv false (.s 9), (some (48, true))⟩,
    ⟨some 50, .call 0 n_pack_Reader_Left [(false, (.s 49))], (some (48, true))⟩,
    ⟨some 51, .mv false (.s 3), (some (48, true))⟩,
    ⟨some 52, .len false (.s 51), (some (48, true))⟩,
    ⟨some 53, .ar .eql (.s 50) (.s 52), (some (48, true))⟩,
    ⟨some 54, .pick (.s 48) (.s 53) (.c (.bool false)), none⟩,
    ⟨some 55, .mv false (.s 54), none⟩,
    ⟨some 56, .call 2 n_law02_awake [], (some (55, true))⟩,
    ⟨some 57, .pick (.s 55) (.s 56) (.c (.bool false)), none⟩,
    ⟨some 8, .mv false (.s 57), none⟩] [])
  (.ret))))), true⟩
/-- bailey/baileylaw10.FrameNext -/
def tf_law10_FrameNext : TF := ⟨41, [.tmp 2],
  .seq (.reg [⟨some 2, .mv false (.c (.bool false)), none⟩] [2])
  (.seq (.seq (.reg [⟨some 9, .mv false (.s 0), none⟩,
    ⟨some 10, .len false (.s 9), none⟩,
    ⟨some 11, .ar .gtr (.s 10) (.c (.int .i64 4000)), none⟩] [9, 10])
  (.cond (.s 11) (.seq (.reg [⟨some 12, .call 2 n_law10_awake [], none⟩,
    ⟨some 2, .mv false (.s 12), none⟩] [])
  (.ret))
  (.skip)))
  (.seq (.reg [⟨some 14, .mv false (.s 0), none⟩,
    ⟨some 15, .call 0 n_frame_Next [(false, (.s 14))], none⟩,
    ⟨some 13, .mv true (.s 15), none⟩,
    ⟨some 16, .ext true 0 (.s 13), none⟩,
    ⟨some 17, .ext false 1 (.s 13), none⟩,
    ⟨some 18, .ext false 2 (.s 13), none⟩,
    ⟨some 3, .mv true (.s 16), none⟩,
    ⟨some 4, .mv false (.s 17), none⟩,
    ⟨some 5, .mv false (.s 18), none⟩] [11, 13, 14, 15, 16, 17, 18])
  (.seq (.reg [⟨some 20, .mv false (.s 0), none⟩,
    ⟨some 21, .call 0 n_ref10_Next [(false, (.s 20))], none⟩,
    ⟨some 19, .mv true (.s 21), none⟩,
    ⟨some 22, .ext true 0 (.s 19), none⟩,
    ⟨some 23, .ext false 1 (.s 19), none⟩,
    ⟨some 24, .ext false 2 (.s 19), none⟩,
    ⟨some 6, .mv true (.s 22), none⟩,
    ⟨some 7, .mv false (.s 23), none⟩,
    ⟨some 8, .mv false (.s 24), none⟩] [0, 19, 20, 21, 22, 23, 24])
  (.seq (.reg [⟨some 25, .mv false (.s 4), none⟩,
    ⟨some 26, .mv false (.s 7), none⟩,
    ⟨some 27, .ar .eql (.s 25) (.s 26), none⟩,
    ⟨some 28, .mv false (.s 27), none⟩,
    ⟨some 29, .mv false (.s 5), (some (28, true))⟩,
    ⟨some 30, .mv false (.s 8), (some (28, true))⟩,
    ⟨some 31, .ar .eql (.s 29) (.s 30), (some (28, true))⟩,
    ⟨some 32, .pick (.s 28) (.s 31) (.c (.bool false)), none⟩,
    ⟨some 33, .mv false (.s 32), none⟩,
    ⟨some 34, .mv false (.s 3), (some (33, true))⟩,
    ⟨some 35, .mv false (.s 6), (some (33, true))⟩,
    ⟨some 36, .call 0 n_slices_Equal_byte_byte [(false, (.s 34)), (false, (.s 35))], (some (33, true))⟩,
    ⟨some 37, .pick (.s 33) (.s 36) (.c (.bool false)), none⟩,
    ⟨some 38, .mv false (.s 37), none⟩,
    ⟨some 39, .call 2 n_law10_awake [], (some (38, true))⟩,
    ⟨some 40, .pick (.s 38) (.s 39) (.c (.bool false)), none⟩,
    ⟨some 2, .mv false (.s 40), none⟩] [])
  (.ret))))), true⟩
/-- bailey/baileylaw10.awake -/
def tf_law10_awake : TF := ⟨16, [.tmp 0],
  .seq (.reg [⟨some 0, .mv false (.c (.bool false)), none⟩] [])
  (.seq (.reg [⟨some 4, .bsl false 1 1 [.int .u8 0] [(0, (.c (.int .u8 97)))], none⟩,
    ⟨some 5, .cvx (.s 4), none⟩,
    ⟨some 6, .call 0 n_frame_Seal [(false, (.s 5))], none⟩,
    ⟨some 3, .mv true (.s 6), none⟩,
    ⟨some 7, .ext true 0 (.s 3), none⟩,
    ⟨some 8, .ext false 1 (.s 3), none⟩,
    ⟨some 1, .mv true (.s 7), none⟩,
    ⟨some 2, .mv false (.s 8), none⟩] [0, 3, 4, 5, 6, 7, 8])
  (.seq (.reg [⟨some 9, .mv false (.s 2), none⟩,
    ⟨some 10, .ar .eql (.s 9) (.c (.int .i64 0)), none⟩,
    ⟨some 11, .mv false (.s 10), none⟩,
    ⟨some 12, .mv false (.s 1), (some (11, true))⟩,
    ⟨some 13, .bsl false 1 6 [.int .u8 0] [(0, (.c (.int .u8 1))), (1, (.c (.int .u8 97))), (2, (.c (.int .u8 0))), (3, (.c (.int .u8 101))), (4, (.c (.int .u8 0))), (5, (.c (.int .u8 99)))], (some (11, true))⟩,
    ⟨some 14, .call 0 n_slices_Equal_byte_byte [(false, (.s 12)), (false, (.s 13))], (some (11, true))⟩,
    ⟨some 15, .pick (.s 11) (.s 14) (.c (.bool false)), none⟩,
    ⟨some 0, .mv false (.s 15), none⟩] [])
  (.ret))), true⟩
/-- bailey/frame.Seal -/
def tf_frame_Seal : TF := ⟨16, [.tmp 2, .tmp 3],
  .seq (.reg [⟨some 2, .mv true (.c (.nils)), none⟩,
    ⟨some 3, .mv false (.c (.int .i64 0)), none⟩] [2, 3])
  (.seq (.seq (.reg [⟨some 5, .mv false (.s 0), none⟩,
    ⟨some 6, .len false (.s 5), none⟩,
    ⟨some 7, .ar .gtr (.s 6) (.c (.int .i64 262144)), none⟩] [5, 6])
  (.cond (.s 7) (.seq (.reg [⟨some 2, .mv true (.c (.nils)), none⟩,
    ⟨some 3, .mv false (.c (.int .i64 5)), none⟩] [])
  (.ret))
  (.skip)))
  (.seq (.reg [⟨some 8, .mv false (.s 0), none⟩,
    ⟨some 9, .cvs (.s 8), none⟩,
    ⟨some 10, .call 0 n_pack_Text [(false, (.c (.nils))), (false, (.s 9))], none⟩,
    ⟨some 4, .mv true (.s 10), none⟩] [0, 7, 8, 9, 10])
  (.seq (.reg [⟨some 11, .mv true (.s 4), none⟩,
    ⟨some 12, .mv false (.s 4), none⟩,
    ⟨some 13, .call 0 n_adler_Sum [(false, (.s 12))], none⟩,
    ⟨some 14, .call 0 n_frame_sealed [(false, (.s 13))], none⟩,
    ⟨some 15, .app true 1 1 (.s 11) (.s 14), none⟩,
    ⟨some 2, .mv true (.s 15), none⟩,
    ⟨some 3, .mv false (.c (.int .i64 0)), none⟩] [])
  (.ret)))), true⟩
/-- bailey/baileyref10.Seal -/
def tf_ref10_Seal : TF := ⟨28, [.tmp 2, .tmp 3],
  .seq (.reg [⟨some 2, .mv true (.c (.nils)), none⟩,
    ⟨some 3, .mv false (.c (.int .i64 0)), none⟩] [2, 3])
  (.seq (.seq (.reg [⟨some 6, .mv false (.s 0), none⟩,
    ⟨some 7, .len false (.s 6), none⟩,
    ⟨some 8, .ar .gtr (.s 7) (.c (.int .i64 262144)), none⟩] [6, 7])
  (.cond (.s 8) (.seq (.reg [⟨some 2, .mv true (.c (.nils)), none⟩,
    ⟨some 3, .mv false (.c (.int .i64 5)), none⟩] [])
  (.ret))
  (.skip)))
  (.seq (.reg [⟨some 9, .mv false (.s 0), none⟩,
    ⟨some 10, .cvs (.s 9), none⟩,
    ⟨some 11, .call 0 n_ref02_Text [(false, (.c (.nils))), (false, (.s 10))], none⟩,
    ⟨some 4, .mv true (.s 11), none⟩] [0, 8, 9, 10, 11])
  (.seq (.reg [⟨some 12, .mv false (.s 4), none⟩,
    ⟨some 13, .call 0 n_ref05_Sum [(false, (.s 12))], none⟩,
    ⟨some 5, .mv false (.s 13), none⟩] [12, 13])
  (.seq (.reg [⟨some 14, .mv true (.s 4), none⟩,
    ⟨some 15, .mv false (.s 5), none⟩,
    ⟨some 16, .ar .shr (.s 15) (.c (.int .u64 24)), none⟩,
    ⟨some 17, .cvi .u8 (.s 16), none⟩,
    ⟨some 18, .mv false (.s 5), none⟩,
    ⟨some 19, .ar .shr (.s 18) (.c (.int .u64 16)), none⟩,
    ⟨some 20, .cvi .u8 (.s 19), none⟩,
    ⟨some 21, .mv false (.s 5), none⟩,
    ⟨some 22, .ar .shr (.s 21) (.c (.int .u64 8)), none⟩,
    ⟨some 23, .cvi .u8 (.s 22), none⟩,
    ⟨some 24, .mv false (.s 5), none⟩,
    ⟨some 25, .cvi .u8 (.s 24), none⟩,
    ⟨some 26, .bsl false 1 4 [.int .u8 0] [(0, (.s 17)), (1, (.s 20)), (2, (.s 23)), (3, (.s 25))], none⟩,
    ⟨some 27, .app true 1 1 (.s 14) (.s 26), none⟩,
    ⟨some 2, .mv true (.s 27), none⟩,
    ⟨some 3, .mv false (.c (.int .i64 0)), none⟩] [])
  (.ret))))), true⟩
/-- slices.Equal[[]byte,byte] -/
def lp_slices_Equal_byte_byte_1 : TC :=
  .seq (.reg [⟨some 14, .ar .lss (.s 13) (.s 12), none⟩] [])
  (.seq (.cond (.s 14) (.skip)
  (.exit 0))
  (.seq (.block 1 (.seq (.reg [⟨some 15, .mv false (.s 13), none⟩,
    ⟨some 5, .mv false (.s 15), none⟩] [14, 15])
  (.seq (.reg [⟨some 16, .mv false (.s 0), none⟩,
    ⟨some 17, .mv false (.s 5), none⟩,
    ⟨some 18, .ia 1 (.s 16) (.s 17), none⟩,
    ⟨some 19, .ldh false false 1 (.s 18), none⟩,
    ⟨some 20, .mv false (.s 1), none⟩,
    ⟨some 21, .mv false (.s 5), none⟩,
    ⟨some 22, .ia 1 (.s 20) (.s 21), none⟩,
    ⟨some 23, .ldh false false 1 (.s 22), none⟩,
    ⟨some 24, .ar .neq (.s 19) (.s 23), none⟩] [5, 16, 17, 18, 19, 20, 21, 22, 23])
  (.cond (.s 24) (.seq (.reg [⟨some 4, .mv false (.c (.bool false)), none⟩] [])
  (.ret))
  (.skip)))))
  (.reg [⟨some 25, .ar .add (.s 13) (.c (.int .i64 1)), none⟩,
    ⟨some 13, .mv false (.s 25), none⟩] [24, 25])))
def tf_slices_Equal_byte_byte : TF := ⟨26, [.tmp 4],
  .seq (.reg [⟨some 4, .mv false (.c (.bool false)), none⟩] [4, 5, 13, 14, 15, 16, 17, 18, 19, 20, 21, 22, 23, 24, 25])
  (.seq (.seq (.reg [⟨some 6, .mv false (.s 0), none⟩,
    ⟨some 7, .len false (.s 6), none⟩,
    ⟨some 8, .mv false (.s 1), none⟩,
    ⟨some 9, .len false (.s 8), none⟩,
    ⟨some 10, .ar .neq (.s 7) (.s 9), none⟩] [6, 7, 8, 9])
  (.cond (.s 10) (.seq (.reg [⟨some 4, .mv false (.c (.bool false)), none⟩] [])
  (.ret))
  (.skip)))
  (.seq (.seq (.reg [⟨some 11, .mv false (.s 0), none⟩,
    ⟨some 12, .len false (.s 11), none⟩,
    ⟨some 13, .mv false (.c (.int .i64 0)), none⟩] [10, 11])
  (.block 0 (.loop lp_slices_Equal_byte_byte_1)))
  (.seq (.reg [⟨some 4, .mv false (.c (.bool true)), none⟩] [])
  (.ret)))), true⟩
/-- bailey/baileylaw02.awake -/
def tf_law02_awake : TF := ⟨10, [.tmp 0],
  .seq (.reg [⟨some 0, .mv false (.c (.bool false)), none⟩] [])
  (.seq (.reg [⟨some 1, .call 0 n_pack_Num [(false, (.c (.nils))), (false, (.c (.int .i64 300)))], none⟩,
    ⟨some 2, .bsl false 1 2 [.int .u8 0] [(0, (.c (.int .u8 130))), (1, (.c (.int .u8 44)))], none⟩,
    ⟨some 3, .call 0 n_slices_Equal_byte_byte [(false, (.s 1)), (false, (.s 2))], none⟩,
    ⟨some 4, .mv false (.s 3), none⟩,
    ⟨some 5, .bsl false 1 2 [.int .u8 0] [(0, (.c (.int .u8 128))), (1, (.c (.int .u8 1)))], (some (4, true))⟩,
    ⟨some 6, .call 0 n_pack_Open [(false, (.s 5))], (some (4, true))⟩,
    ⟨some 7, .call 0 n_pack_Reader_Num [(false, (.s 6)), (false, (.c (.int .i64 9)))], (some (4, true))⟩,
    ⟨some 8, .ar .eql (.s 7) (.c (.int .i64 0)), (some (4, true))⟩,
    ⟨some 9, .pick (.s 4) (.s 8) (.c (.bool false)), none⟩,
    ⟨some 0, .mv false (.s 9), none⟩] [])
  (.ret)), true⟩
/-- bailey/pack.Num -/
def tf_pack_Num : TF := ⟨9, [.tmp 4],
  .seq (.reg [⟨some 4, .mv true (.c (.nils)), none⟩] [4])
  (.seq (.reg [⟨some 5, .mv true (.s 0), none⟩,
    ⟨some 6, .call 0 n_pack_room [(false, (.s 5)), (false, (.c (.int .i64 9)))], none⟩,
    ⟨some 7, .mv false (.s 1), none⟩,
    ⟨some 8, .call 0 n_pack_put [(true, (.s 6)), (false, (.s 7))], none⟩,
    ⟨some 4, .mv true (.s 8), none⟩] [])
  (.ret)), true⟩
/-- bailey/baileyref02.Num -/
def lp_ref02_Num_1 : TC :=
  .seq (.seq (.reg [⟨some 9, .mv false (.s 6), none⟩,
    ⟨some 10, .ar .add (.s 9) (.c (.int .i64 1)), none⟩,
    ⟨some 11, .mv false (.s 5), none⟩,
    ⟨some 12, .len false (.s 11), none⟩,
    ⟨some 13, .ar .lss (.s 10) (.s 12), none⟩] [9, 10, 11, 12])
  (.cond (.s 13) (.skip)
  (.exit 0)))
  (.seq (.block 1 (.reg [⟨some 16, .mv false (.s 5), none⟩,
    ⟨some 17, .mv false (.s 6), none⟩,
    ⟨some 18, .mv false (.s 5), none⟩,
    ⟨some 19, .mv false (.s 6), none⟩,
    ⟨some 20, .ia 1 (.s 18) (.s 19), none⟩,
    ⟨some 21, .ldh false false 1 (.s 20), none⟩,
    ⟨some 22, .ar .add (.s 21) (.c (.int .u8 128)), none⟩,
    ⟨some 23, .ia 1 (.s 16) (.s 17), none⟩,
    ⟨none, .sth false 1 (.s 23) (.s 22), none⟩] [13, 16, 17, 18, 19, 20, 21, 22, 23]))
  (.reg [⟨some 14, .mv false (.s 6), none⟩,
    ⟨some 15, .ar .add (.s 14) (.c (.int .i64 1)), none⟩,
    ⟨some 6, .mv false (.s 15), none⟩] [14, 15]))
def tf_ref02_Num : TF := ⟨28, [.tmp 4],
  .seq (.reg [⟨some 4, .mv true (.c (.nils)), none⟩] [4, 6, 9, 10, 11, 12, 13, 14, 15, 16, 17, 18, 19, 20, 21, 22, 23])
  (.seq (.reg [⟨some 7, .mv false (.s 1), none⟩,
    ⟨some 8, .call 0 n_ref02_groups [(false, (.s 7))], none⟩,
    ⟨some 5, .mv true (.s 8), none⟩] [1, 7, 8])
  (.seq (.seq (.reg [⟨some 6, .mv false (.c (.int .i64 0)), none⟩] [])
  (.block 0 (.loop lp_ref02_Num_1)))
  (.seq (.reg [⟨some 24, .mv true (.s 0), none⟩,
    ⟨some 25, .call 0 n_ref02_copied [(false, (.s 24))], none⟩,
    ⟨some 26, .mv false (.s 5), none⟩,
    ⟨some 27, .app true 1 1 (.s 25) (.s 26), none⟩,
    ⟨some 4, .mv true (.s 27), none⟩] [])
  (.ret)))), true⟩
/-- bailey/pack.Text -/
def tf_pack_Text : TF := ⟨15, [.tmp 4],
  .seq (.reg [⟨some 4, .mv true (.c (.nils)), none⟩] [4])
  (.seq (.reg [⟨some 5, .mv true (.s 0), none⟩,
    ⟨some 6, .mv false (.s 1), none⟩,
    ⟨some 7, .len true (.s 6), none⟩,
    ⟨some 8, .ar .add (.c (.int .i64 9)) (.s 7), none⟩,
    ⟨some 9, .call 0 n_pack_room [(false, (.s 5)), (false, (.s 8))], none⟩,
    ⟨some 10, .mv false (.s 1), none⟩,
    ⟨some 11, .len true (.s 10), none⟩,
    ⟨some 12, .call 0 n_pack_put [(true, (.s 9)), (false, (.s 11))], none⟩,
    ⟨some 13, .mv false (.s 1), none⟩,
    ⟨some 14, .app true 1 1 (.s 12) (.s 13), none⟩,
    ⟨some 4, .mv true (.s 14), none⟩] [])
  (.ret)), true⟩
/-- bailey/baileyref02.Text -/
def tf_ref02_Text : TF := ⟨11, [.tmp 4],
  .seq (.reg [⟨some 4, .mv true (.c (.nils)), none⟩] [4])
  (.seq (.reg [⟨some 5, .mv true (.s 0), none⟩,
    ⟨some 6, .mv false (.s 1), none⟩,
    ⟨some 7, .len true (.s 6), none⟩,
    ⟨some 8, .call 0 n_ref02_Num [(false, (.s 5)), (false, (.s 7))], none⟩,
    ⟨some 9, .mv false (.s 1), none⟩,
    ⟨some 10, .app true 1 1 (.s 8) (.s 9), none⟩,
    ⟨some 4, .mv true (.s 10), none⟩] [])
  (.ret)), true⟩
/-- bailey/pack.Yes -/
def jn_pack_Yes_1 : TC :=
  .seq (.reg [⟨some 7, .mv true (.s 0), none⟩,
    ⟨some 8, .mv false (.s 5), none⟩,
    ⟨some 9, .call 0 n_pack_Num [(false, (.s 7)), (false, (.s 8))], none⟩,
    ⟨some 4, .mv true (.s 9), none⟩] [])
  (.ret)
def tf_pack_Yes : TF := ⟨10, [.tmp 4],
  .seq (.reg [⟨some 4, .mv true (.c (.nils)), none⟩] [4])
  (.seq (.reg [⟨some 5, .mv false (.c (.int .i64 0)), none⟩] [])
  (.seq (.seq (.reg [⟨some 6, .mv false (.s 1), none⟩] [1])
  (.cond (.s 6) (.reg [⟨some 5, .mv false (.c (.int .i64 1)), none⟩] [6])
  (.skip)))
  (jn_pack_Yes_1))), true⟩
/-- bailey/pack.Size -/
def lp_pack_Size_1 : TC :=
  .seq (.seq (.reg [⟨some 4, .mv false (.s 0), none⟩,
    ⟨some 5, .ar .geq (.s 4) (.c (.int .i64 128)), none⟩] [4])
  (.cond (.s 5) (.skip)
  (.exit 0)))
  (.block 1 (.seq (.reg [⟨some 6, .mv false (.s 0), none⟩,
    ⟨some 7, .ar .shr (.s 6) (.c (.int .u64 7)), none⟩,
    ⟨some 0, .mv false (.s 7), none⟩] [5, 6, 7])
  (.reg [⟨some 8, .mv false (.s 3), none⟩,
    ⟨some 9, .ar .add (.s 8) (.c (.int .i64 1)), none⟩,
    ⟨some 3, .mv false (.s 9), none⟩] [8, 9])))
def tf_pack_Size : TF := ⟨11, [.tmp 2],
  .seq (.reg [⟨some 2, .mv false (.c (.int .i64 0)), none⟩] [2, 3, 4, 5, 6, 7, 8, 9])
  (.seq (.reg [⟨some 3, .mv false (.c (.int .i64 1)), none⟩] [])
  (.seq (.block 0 (.loop lp_pack_Size_1))
  (.seq (.reg [⟨some 10, .mv false (.s 3), none⟩,
    ⟨some 2, .mv false (.s 10), none⟩] [])
  (.ret)))), true⟩
/-- bailey/pack.Open -/
def tf_pack_Open : TF := ⟨7, [.tmp 2],
  .seq (.reg [⟨some 2, .mv false (.c (.nilp)), none⟩] [2])
  (.seq (.reg [⟨some 3, .mv true (.s 0), none⟩,
    ⟨some 4, .call 0 n_pack_room [(false, (.s 3)), (false, (.c (.int .i64 0)))], none⟩,
    ⟨some 5, .build [.nils, .int .i64 0, .bool false] [(0, 1, (.s 4)), (2, 1, (.c (.bool true)))], none⟩,
    ⟨some 6, .hbx true (.s 5), none⟩,
    ⟨some 2, .mv false (.s 6), none⟩] [])
  (.ret)), true⟩
/-- (*bailey/pack.Reader).Num -/
def lp_pack_Reader_Num_1 : TC :=
  .seq (.reg [⟨some 17, .ar .lss (.s 16) (.s 15), none⟩] [])
  (.seq (.cond (.s 17) (.skip)
  (.exit 0))
  (.seq (.block 1 (.seq (.reg [⟨some 18, .ia 1 (.s 14) (.s 16), none⟩,
    ⟨some 19, .ldh false false 1 (.s 18), none⟩,
    ⟨some 7, .mv false (.s 19), none⟩] [17, 18, 19])
  (.reg [⟨some 20, .mv false (.s 5), none⟩,
    ⟨some 21, .ar .shl (.s 20) (.c (.int .u64 7)), none⟩,
    ⟨some 22, .mv false (.s 7), none⟩,
    ⟨some 23, .ar .andNot (.s 22) (.c (.int .u8 128)), none⟩,
    ⟨some 24, .cvi .i64 (.s 23), none⟩,
    ⟨some 25, .ar .or (.s 21) (.s 24), none⟩,
    ⟨some 5, .mv false (.s 25), none⟩] [7, 20, 21, 22, 23, 24, 25])))
  (.reg [⟨some 26, .ar .add (.s 16) (.c (.int .i64 1)), none⟩,
    ⟨some 16, .mv false (.s 26), none⟩] [26])))
def jn_pack_Reader_Num_2 : TC :=
  .seq (.seq (.reg [⟨some 32, .mv false (.s 0), none⟩,
    ⟨some 33, .call 0 n_pack_Reader_works [(false, (.s 32))], none⟩,
    ⟨some 34, .not (.s 33), none⟩] [0, 29, 32, 33])
  (.cond (.s 34) (.seq (.reg [⟨some 4, .mv false (.c (.int .i64 0)), none⟩] [])
  (.ret))
  (.skip)))
  (.seq (.reg [⟨some 35, .mv false (.s 5), none⟩,
    ⟨some 4, .mv false (.s 35), none⟩] [])
  (.ret))
def tf_pack_Reader_Num : TF := ⟨36, [.tmp 4],
  .seq (.reg [⟨some 4, .mv false (.c (.int .i64 0)), none⟩] [4, 5, 7, 16, 17, 18, 19, 20, 21, 22, 23, 24, 25, 26])
  (.seq (.seq (.reg [⟨some 8, .mv false (.s 0), none⟩,
    ⟨some 9, .call 0 n_pack_Reader_works [(false, (.s 8))], none⟩,
    ⟨some 10, .not (.s 9), none⟩] [8, 9])
  (.cond (.s 10) (.seq (.reg [⟨some 4, .mv false (.c (.int .i64 0)), none⟩] [])
  (.ret))
  (.skip)))
  (.seq (.reg [⟨some 5, .mv false (.c (.int .i64 0)), none⟩] [10])
  (.seq (.seq (.reg [⟨some 11, .mv false (.s 0), none⟩,
    ⟨some 12, .mv false (.s 0), none⟩,
    ⟨some 13, .call 0 n_pack_Reader_width [(false, (.s 12))], none⟩,
    ⟨some 14, .call 0 n_pack_Reader_take [(false, (.s 11)), (false, (.s 13))], none⟩,
    ⟨some 15, .len false (.s 14), none⟩,
    ⟨some 16, .mv false (.c (.int .i64 0)), none⟩] [11, 12, 13])
  (.block 0 (.loop lp_pack_Reader_Num_1)))
  (.seq (.seq (.reg [⟨some 27, .mv false (.s 5), none⟩,
    ⟨some 28, .mv false (.s 1), none⟩,
    ⟨some 29, .ar .gtr (.s 27) (.s 28), none⟩] [1, 14, 15, 16, 17, 27, 28])
  (.cond (.s 29) (.reg [⟨some 30, .mv false (.s 0), none⟩,
    ⟨some 31, .call 0 n_pack_Reader_Fail [(false, (.s 30)), (false, (.c (.int .i64 5)))], none⟩] [29, 30, 31])
  (.skip)))
  (jn_pack_Reader_Num_2))))), true⟩
/-- (*bailey/pack.Reader).Err -/
def tf_pack_Reader_Err : TF := ⟨16, [.tmp 2],
  .seq (.reg [⟨some 2, .mv false (.c (.int .i64 0)), none⟩] [2])
  (.seq (.seq (.reg [⟨some 3, .mv false (.s 0), none⟩,
    ⟨some 4, .eqp false (.s 3) (.c (.nilp)), none⟩,
    ⟨some 5, .mv false (.s 4), none⟩,
    ⟨some 6, .mv false (.s 0), (some (5, false))⟩,
    ⟨some 7, .nilc (.s 6), (some (5, false))⟩,
    ⟨some 8, .fa 2 (.s 7), (some (5, false))⟩,
    ⟨some 9, .ldh false false 1 (.s 8), (some (5, false))⟩,
    ⟨some 10, .not (.s 9), (some (5, false))⟩,
    ⟨some 11, .pick (.s 5) (.c (.bool true)) (.s 10), none⟩] [3, 4, 5, 6, 7, 8, 9, 10])
  (.cond (.s 11) (.seq (.reg [⟨some 2, .mv false (.c (.int .i64 2)), none⟩] [])
  (.ret))
  (.skip)))
  (.seq (.reg [⟨some 12, .mv false (.s 0), none⟩,
    ⟨some 13, .nilc (.s 12), none⟩,
    ⟨some 14, .fa 1 (.s 13), none⟩,
    ⟨some 15, .ldh false false 1 (.s 14), none⟩,
    ⟨some 2, .mv false (.s 15), none⟩] [])
  (.ret))), true⟩
/-- (*bailey/pack.Reader).Left -/
def tf_pack_Reader_Left : TF := ⟨11, [.tmp 2],
  .seq (.reg [⟨some 2, .mv false (.c (.int .i64 0)), none⟩] [2])
  (.seq (.seq (.reg [⟨some 3, .mv false (.s 0), none⟩,
    ⟨some 4, .call 0 n_pack_Reader_works [(false, (.s 3))], none⟩,
    ⟨some 5, .not (.s 4), none⟩] [3, 4])
  (.cond (.s 5) (.seq (.reg [⟨some 2, .mv false (.c (.int .i64 0)), none⟩] [])
  (.ret))
  (.skip)))
  (.seq (.reg [⟨some 6, .mv false (.s 0), none⟩,
    ⟨some 7, .nilc (.s 6), none⟩,
    ⟨some 8, .fa 0 (.s 7), none⟩,
    ⟨some 9, .ldh false false 1 (.s 8), none⟩,
    ⟨some 10, .len false (.s 9), none⟩,
    ⟨some 2, .mv false (.s 10), none⟩] [])
  (.ret))), true⟩
/-- (*bailey/pack.Reader).Fail -/
def tf_pack_Reader_Fail : TF := ⟨18, [],
  .seq (.seq (.reg [⟨some 4, .mv false (.s 0), none⟩,
    ⟨some 5, .call 0 n_pack_Reader_works [(false, (.s 4))], none⟩,
    ⟨some 6, .not (.s 5), none⟩,
    ⟨some 7, .mv false (.s 6), none⟩,
    ⟨some 8, .mv false (.s 1), (some (7, false))⟩,
    ⟨some 9, .ar .eql (.s 8) (.c (.int .i64 0)), (some (7, false))⟩,
    ⟨some 10, .pick (.s 7) (.c (.bool true)) (.s 9), none⟩] [4, 5, 6, 7, 8, 9])
  (.cond (.s 10) (.ret)
  (.skip)))
  (.reg [⟨some 11, .mv false (.s 0), none⟩,
    ⟨some 12, .mv false (.s 0), none⟩,
    ⟨some 13, .mv false (.s 1), none⟩,
    ⟨some 14, .nilc (.s 11), none⟩,
    ⟨some 15, .fa 1 (.s 14), none⟩,
    ⟨none, .sth false 1 (.s 15) (.s 13), none⟩,
    ⟨some 16, .nilc (.s 12), none⟩,
    ⟨some 17, .fa 0 (.s 16), none⟩,
    ⟨none, .sth false 1 (.s 17) (.c (.nils)), none⟩] []), true⟩
/-- (*bailey/pack.Reader).Text -/
def tf_pack_Reader_Text : TF := ⟨16, [.tmp 4],
  .seq (.reg [⟨some 4, .mv false (.c (.str ⟨#[]⟩)), none⟩] [4])
  (.seq (.reg [⟨some 6, .mv false (.s 0), none⟩,
    ⟨some 7, .mv false (.s 1), none⟩,
    ⟨some 8, .call 0 n_pack_Reader_Num [(false, (.s 6)), (false, (.s 7))], none⟩,
    ⟨some 5, .mv false (.s 8), none⟩] [1, 6, 7, 8])
  (.seq (.seq (.reg [⟨some 9, .mv false (.s 0), none⟩,
    ⟨some 10, .call 0 n_pack_Reader_works [(false, (.s 9))], none⟩,
    ⟨some 11, .not (.s 10), none⟩] [9, 10])
  (.cond (.s 11) (.seq (.reg [⟨some 4, .mv false (.c (.str ⟨#[]⟩)), none⟩] [])
  (.ret))
  (.skip)))
  (.seq (.reg [⟨some 12, .mv false (.s 0), none⟩,
    ⟨some 13, .mv false (.s 5), none⟩,
    ⟨some 14, .call 0 n_pack_Reader_take [(false, (.s 12)), (false, (.s 13))], none⟩,
    ⟨some 15, .cvs (.s 14), none⟩,
    ⟨some 4, .mv false (.s 15), none⟩] [])
  (.ret)))), true⟩
/-- (*bailey/pack.Reader).Yes -/
def jn_pack_Reader_Yes_1 : TC :=
  .seq (.reg [⟨some 20, .mv false (.s 0), none⟩,
    ⟨some 21, .call 0 n_pack_Reader_works [(false, (.s 20))], none⟩,
    ⟨some 22, .mv false (.s 21), none⟩,
    ⟨some 23, .mv false (.s 3), (some (22, true))⟩,
    ⟨some 24, .ia 1 (.s 23) (.c (.int .i64 0)), (some (22, true))⟩,
    ⟨some 25, .ldh false false 1 (.s 24), (some (22, true))⟩,
    ⟨some 26, .ar .eql (.s 25) (.c (.int .u8 1)), (some (22, true))⟩,
    ⟨some 27, .pick (.s 22) (.s 26) (.c (.bool false)), none⟩,
    ⟨some 2, .mv false (.s 27), none⟩] [])
  (.ret)
def tf_pack_Reader_Yes : TF := ⟨28, [.tmp 2],
  .seq (.reg [⟨some 2, .mv false (.c (.bool false)), none⟩] [2])
  (.seq (.seq (.reg [⟨some 4, .mv false (.s 0), none⟩,
    ⟨some 5, .call 0 n_pack_Reader_works [(false, (.s 4))], none⟩,
    ⟨some 6, .not (.s 5), none⟩] [4, 5])
  (.cond (.s 6) (.seq (.reg [⟨some 2, .mv false (.c (.bool false)), none⟩] [])
  (.ret))
  (.skip)))
  (.seq (.reg [⟨some 7, .mv false (.s 0), none⟩,
    ⟨some 8, .call 0 n_pack_Reader_take [(false, (.s 7)), (false, (.c (.int .i64 1)))], none⟩,
    ⟨some 3, .mv true (.s 8), none⟩] [6, 7, 8])
  (.seq (.seq (.reg [⟨some 9, .mv false (.s 3), none⟩,
    ⟨some 10, .len false (.s 9), none⟩,
    ⟨some 11, .ar .eql (.s 10) (.c (.int .i64 1)), none⟩,
    ⟨some 12, .mv false (.s 11), none⟩,
    ⟨some 13, .mv false (.s 3), (some (12, true))⟩,
    ⟨some 14, .ia 1 (.s 13) (.c (.int .i64 0)), (some (12, true))⟩,
    ⟨some 15, .ldh false false 1 (.s 14), (some (12, true))⟩,
    ⟨some 16, .ar .gtr (.s 15) (.c (.int .u8 1)), (some (12, true))⟩,
    ⟨some 17, .pick (.s 12) (.s 16) (.c (.bool false)), none⟩] [9, 10, 11, 12, 13, 14, 15, 16])
  (.cond (.s 17) (.reg [⟨some 18, .mv false (.s 0), none⟩,
    ⟨some 19, .call 0 n_pack_Reader_Fail [(false, (.s 18)), (false, (.c (.int .i64 3)))], none⟩] [17, 18, 19])
  (.skip)))
  (jn_pack_Reader_Yes_1)))), true⟩
/-- bailey/baileyref02.Open -/
def tf_ref02_Open : TF := ⟨7, [.tmp 2],
  .seq (.reg [⟨some 2, .mv false (.c (.nilp)), none⟩] [2])
  (.seq (.reg [⟨some 3, .mv true (.s 0), none⟩,
    ⟨some 4, .call 0 n_ref02_copied [(false, (.s 3))], none⟩,
    ⟨some 5, .build [.nils, .int .i64 0] [(0, 1, (.s 4))], none⟩,
    ⟨some 6, .hbx true (.s 5), none⟩,
    ⟨some 2, .mv false (.s 6), none⟩] [])
  (.ret)), true⟩
/-- (*bailey/baileyref02.Reader).Num -/
def lp_ref02_Reader_Num_1 : TC :=
  .seq (.seq (.reg [⟨some 7, .mv false (.s 0), none⟩,
    ⟨some 8, .nilc (.s 7), none⟩,
    ⟨some 9, .fa 1 (.s 8), none⟩,
    ⟨some 10, .ldh false false 1 (.s 9), none⟩,
    ⟨some 11, .ar .eql (.s 10) (.c (.int .i64 0)), none⟩] [7, 8, 9, 10])
  (.cond (.s 11) (.skip)
  (.exit 0)))
  (.seq (.block 1 (.seq (.reg [⟨some 14, .mv false (.s 6), none⟩,
    ⟨some 15, .mv false (.s 0), none⟩,
    ⟨some 16, .nilc (.s 15), none⟩,
    ⟨some 17, .fa 0 (.s 16), none⟩,
    ⟨some 18, .ldh false false 1 (.s 17), none⟩,
    ⟨some 19, .len false (.s 18), none⟩,
    ⟨some 20, .ar .geq (.s 14) (.s 19), none⟩] [11, 14, 15, 16, 17, 18, 19])
  (.cond (.s 20) (.reg [⟨some 21, .mv false (.s 0), none⟩,
    ⟨some 22, .call 0 n_ref02_Reader_Fail [(false, (.s 21)), (false, (.c (.int .i64 4)))], none⟩] [20, 21, 22])
  (.seq (.reg [⟨some 23, .mv false (.s 6), none⟩,
    ⟨some 24, .ar .eql (.s 23) (.c (.int .i64 0)), none⟩,
    ⟨some 25, .mv false (.s 24), none⟩,
    ⟨some 26, .mv false (.s 0), (some (25, true))⟩,
    ⟨some 27, .nilc (.s 26), (some (25, true))⟩,
    ⟨some 28, .fa 0 (.s 27), (some (25, true))⟩,
    ⟨some 29, .ldh false false 1 (.s 28), (some (25, true))⟩,
    ⟨some 30, .ia 1 (.s 29) (.c (.int .i64 0)), (some (25, true))⟩,
    ⟨some 31, .ldh false false 1 (.s 30), (some (25, true))⟩,
    ⟨some 32, .ar .eql (.s 31) (.c (.int .u8 128)), (some (25, true))⟩,
    ⟨some 33, .pick (.s 25) (.s 32) (.c (.bool false)), none⟩,
    ⟨some 34, .mv false (.s 33), none⟩,
    ⟨some 35, .mv false (.s 6), (some (34, false))⟩,
    ⟨some 36, .ar .eql (.s 35) (.c (.int .i64 8)), (some (34, false))⟩,
    ⟨some 37, .mv false (.s 36), (some (34, false))⟩,
    ⟨some 38, .mv false (.s 0), (some (37, true))⟩,
    ⟨some 39, .nilc (.s 38), (some (37, true))⟩,
    ⟨some 40, .fa 0 (.s 39), (some (37, true))⟩,
    ⟨some 41, .ldh false false 1 (.s 40), (some (37, true))⟩,
    ⟨some 42, .ia 1 (.s 41) (.c (.int .i64 8)), (some (37, true))⟩,
    ⟨some 43, .ldh false false 1 (.s 42), (some (37, true))⟩,
    ⟨some 44, .ar .geq (.s 43) (.c (.int .u8 128)), (some (37, true))⟩,
    ⟨some 45, .pick (.s 37) (.s 44) (.c (.bool false)), (some (34, false))⟩,
    ⟨some 46, .pick (.s 34) (.c (.bool true)) (.s 45), none⟩] [20, 23, 24, 25, 26, 27, 28, 29, 30, 31, 32, 33, 34, 35, 36, 37, 38, 39, 40, 41, 42, 43, 44, 45])
  (.cond (.s 46) (.reg [⟨some 47, .mv false (.s 0), none⟩,
    ⟨some 48, .call 0 n_ref02_Reader_Fail [(false, (.s 47)), (false, (.c (.int .i64 3)))], none⟩] [46, 47, 48])
  (.seq (.reg [⟨some 49, .mv false (.s 5), none⟩,
    ⟨some 50, .ar .mul (.s 49) (.c (.int .i64 128)), none⟩,
    ⟨some 51, .mv false (.s 0), none⟩,
    ⟨some 52, .nilc (.s 51), none⟩,
    ⟨some 53, .fa 0 (.s 52), none⟩,
    ⟨some 54, .ldh false false 1 (.s 53), none⟩,
    ⟨some 55, .mv false (.s 6), none⟩,
    ⟨some 56, .ia 1 (.s 54) (.s 55), none⟩,
    ⟨some 57, .ldh false false 1 (.s 56), none⟩,
    ⟨some 58, .ar .rem (.s 57) (.c (.int .u8 128)), none⟩,
    ⟨some 59, .cvi .i64 (.s 58), none⟩,
    ⟨some 60, .ar .add (.s 50) (.s 59), none⟩,
    ⟨some 5, .mv false (.s 60), none⟩] [46, 49, 50, 51, 52, 53, 54, 55, 56, 57, 58, 59, 60])
  (.seq (.reg [⟨some 61, .mv false (.s 0), none⟩,
    ⟨some 62, .nilc (.s 61), none⟩,
    ⟨some 63, .fa 0 (.s 62), none⟩,
    ⟨some 64, .ldh false false 1 (.s 63), none⟩,
    ⟨some 65, .mv false (.s 6), none⟩,
    ⟨some 66, .ia 1 (.s 64) (.s 65), none⟩,
    ⟨some 67, .ldh false false 1 (.s 66), none⟩,
    ⟨some 68, .ar .lss (.s 67) (.c (.int .u8 128)), none⟩] [61, 62, 63, 64, 65, 66, 67])
  (.cond (.s 68) (.seq (.reg [⟨some 69, .mv false (.s 0), none⟩,
    ⟨some 70, .mv false (.s 0), none⟩,
    ⟨some 71, .nilc (.s 70), none⟩,
    ⟨some 72, .fa 0 (.s 71), none⟩,
    ⟨some 73, .ldh false false 1 (.s 72), none⟩,
    ⟨some 74, .mv false (.s 6), none⟩,
    ⟨some 75, .ar .add (.s 74) (.c (.int .i64 1)), none⟩,
    ⟨some 76, .slc 1 (.s 73) (some (.s 75)) none none, none⟩,
    ⟨some 77, .nilc (.s 69), none⟩,
    ⟨some 78, .fa 0 (.s 77), none⟩,
    ⟨none, .sth true 1 (.s 78) (.s 76), none⟩] [6, 68, 69, 70, 71, 72, 73, 74, 75, 76, 77, 78])
  (.seq (.seq (.reg [⟨some 79, .mv false (.s 5), none⟩,
    ⟨some 80, .mv false (.s 1), none⟩,
    ⟨some 81, .ar .gtr (.s 79) (.s 80), none⟩] [1, 79, 80])
  (.cond (.s 81) (.seq (.reg [⟨some 82, .mv false (.s 0), none⟩,
    ⟨some 83, .call 0 n_ref02_Reader_Fail [(false, (.s 82)), (false, (.c (.int .i64 5)))], none⟩] [])
  (.seq (.reg [⟨some 4, .mv false (.c (.int .i64 0)), none⟩] [])
  (.ret)))
  (.skip)))
  (.seq (.reg [⟨some 84, .mv false (.s 5), none⟩,
    ⟨some 4, .mv false (.s 84), none⟩] [])
  (.ret))))
  (.skip)))))))))
  (.reg [⟨some 12, .mv false (.s 6), none⟩,
    ⟨some 13, .ar .add (.s 12) (.c (.int .i64 1)), none⟩,
    ⟨some 6, .mv false (.s 13), none⟩] [12, 13, 68]))
def tf_ref02_Reader_Num : TF := ⟨85, [.tmp 4],
  .seq (.reg [⟨some 4, .mv false (.c (.int .i64 0)), none⟩] [4, 5, 6, 7, 8, 9, 10, 11, 12, 13, 14, 15, 16, 17, 18, 19, 20, 21, 22, 23, 24, 25, 26, 27, 28, 29, 30, 31, 32, 33, 34, 35, 36, 37, 38, 39, 40, 41, 42, 43, 44, 45, 46, 47, 48, 49, 50, 51, 52, 53, 54, 55, 56, 57, 58, 59, 60, 61, 62, 63, 64, 65, 66, 67, 68, 69, 70, 71, 72, 73, 74, 75, 76, 77, 78, 79, 80, 81, 82, 83, 84])
  (.seq (.reg [⟨some 5, .mv false (.c (.int .i64 0)), none⟩] [])
  (.seq (.seq (.reg [⟨some 6, .mv false (.c (.int .i64 0)), none⟩] [])
  (.block 0 (.loop lp_ref02_Reader_Num_1)))
  (.seq (.reg [⟨some 4, .mv false (.c (.int .i64 0)), none⟩] [])
  (.ret)))), true⟩
/-- (*bailey/baileyref02.Reader).Fail -/
def jn_ref02_Reader_Fail_1 : TC :=
  .seq (.reg [⟨some 13, .mv false (.s 0), none⟩,
    ⟨some 14, .nilc (.s 13), none⟩,
    ⟨some 15, .fa 1 (.s 14), none⟩,
    ⟨some 16, .ldh false false 1 (.s 15), none⟩,
    ⟨some 17, .ar .neq (.s 16) (.c (.int .i64 0)), none⟩] [1, 8, 13, 14, 15, 16])
  (.cond (.s 17) (.reg [⟨some 18, .mv false (.s 0), none⟩,
    ⟨some 19, .nilc (.s 18), none⟩,
    ⟨some 20, .fa 0 (.s 19), none⟩,
    ⟨none, .sth false 1 (.s 20) (.c (.nils)), none⟩] [])
  (.skip))
def tf_ref02_Reader_Fail : TF := ⟨21, [],
  .seq (.seq (.reg [⟨some 4, .mv false (.s 0), none⟩,
    ⟨some 5, .nilc (.s 4), none⟩,
    ⟨some 6, .fa 1 (.s 5), none⟩,
    ⟨some 7, .ldh false false 1 (.s 6), none⟩,
    ⟨some 8, .ar .eql (.s 7) (.c (.int .i64 0)), none⟩] [4, 5, 6, 7])
  (.cond (.s 8) (.reg [⟨some 9, .mv false (.s 0), none⟩,
    ⟨some 10, .mv false (.s 1), none⟩,
    ⟨some 11, .nilc (.s 9), none⟩,
    ⟨some 12, .fa 1 (.s 11), none⟩,
    ⟨none, .sth false 1 (.s 12) (.s 10), none⟩] [1, 8, 9, 10, 11, 12])
  (.skip)))
  (jn_ref02_Reader_Fail_1), true⟩
/-- (*bailey/baileyref02.Reader).Left -/
def tf_ref02_Reader_Left : TF := ⟨8, [.tmp 2],
  .seq (.reg [⟨some 2, .mv false (.c (.int .i64 0)), none⟩] [2])
  (.seq (.reg [⟨some 3, .mv false (.s 0), none⟩,
    ⟨some 4, .nilc (.s 3), none⟩,
    ⟨some 5, .fa 0 (.s 4), none⟩,
    ⟨some 6, .ldh false false 1 (.s 5), none⟩,
    ⟨some 7, .len false (.s 6), none⟩,
    ⟨some 2, .mv false (.s 7), none⟩] [])
  (.ret)), true⟩
/-- (*bailey/baileyref02.Reader).Err -/
def tf_ref02_Reader_Err : TF := ⟨7, [.tmp 2],
  .seq (.reg [⟨some 2, .mv false (.c (.int .i64 0)), none⟩] [2])
  (.seq (.reg [⟨some 3, .mv false (.s 0), none⟩,
    ⟨some 4, .nilc (.s 3), none⟩,
    ⟨some 5, .fa 1 (.s 4), none⟩,
    ⟨some 6, .ldh false false 1 (.s 5), none⟩,
    ⟨some 2, .mv false (.s 6), none⟩] [])
  (.ret)), true⟩
/-- bailey/frame.Next -/
def tf_frame_Next : TF := ⟨38, [.tmp 2, .tmp 3, .tmp 4],
  .seq (.reg [⟨some 2, .mv true (.c (.nils)), none⟩,
    ⟨some 3, .mv false (.c (.int .i64 0)), none⟩,
    ⟨some 4, .mv false (.c (.int .i64 0)), none⟩] [2, 3, 4])
  (.seq (.reg [⟨some 8, .mv false (.s 0), none⟩,
    ⟨some 9, .call 0 n_frame_parted [(false, (.s 8))], none⟩,
    ⟨some 7, .mv true (.s 9), none⟩,
    ⟨some 10, .ext false 0 (.s 7), none⟩,
    ⟨some 11, .ext false 1 (.s 7), none⟩,
    ⟨some 5, .lal [.int .i64 0, .int .i64 0, .int .i64 0], none⟩,
    ⟨none, .stl false 3 5 (.s 5) (.s 10), none⟩,
    ⟨some 6, .mv false (.s 11), none⟩] [7, 8, 9, 10, 11])
  (.seq (.seq (.reg [⟨some 12, .mv false (.s 6), none⟩,
    ⟨some 13, .ar .neq (.s 12) (.c (.int .i64 0)), none⟩] [12])
  (.cond (.s 13) (.seq (.reg [⟨some 14, .mv false (.s 6), none⟩,
    ⟨some 2, .mv true (.c (.nils)), none⟩,
    ⟨some 3, .mv false (.c (.int .i64 0)), none⟩,
    ⟨some 4, .mv false (.s 14), none⟩] [])
  (.ret))
  (.skip)))
  (.seq (.seq (.reg [⟨some 15, .mv false (.s 0), none⟩,
    ⟨some 16, .fa 1 (.s 5), none⟩,
    ⟨some 17, .ldl false false 1 5 (.s 16), none⟩,
    ⟨some 18, .fa 2 (.s 5), none⟩,
    ⟨some 19, .ldl false false 1 5 (.s 18), none⟩,
    ⟨some 20, .slc 1 (.s 15) (some (.s 17)) (some (.s 19)) none, none⟩,
    ⟨some 21, .mv false (.s 0), none⟩,
    ⟨some 22, .fa 1 (.s 5), none⟩,
    ⟨some 23, .ldl false false 1 5 (.s 22), none⟩,
    ⟨some 24, .slc 1 (.s 21) none (some (.s 23)) none, none⟩,
    ⟨some 25, .call 0 n_adler_Sum [(false, (.s 24))], none⟩,
    ⟨some 26, .call 0 n_frame_sealed [(false, (.s 25))], none⟩,
    ⟨some 27, .call 0 n_slices_Equal_byte_byte [(false, (.s 20)), (false, (.s 26))], none⟩,
    ⟨some 28, .not (.s 27), none⟩] [6, 13, 15, 16, 17, 18, 19, 20, 21, 22, 23, 24, 25, 26, 27])
  (.cond (.s 28) (.seq (.reg [⟨some 2, .mv true (.c (.nils)), none⟩,
    ⟨some 3, .mv false (.c (.int .i64 0)), none⟩,
    ⟨some 4, .mv false (.c (.int .i64 9)), none⟩] [])
  (.ret))
  (.skip)))
  (.seq (.reg [⟨some 29, .mv false (.s 0), none⟩,
    ⟨some 30, .fa 0 (.s 5), none⟩,
    ⟨some 31, .ldl false false 1 5 (.s 30), none⟩,
    ⟨some 32, .fa 1 (.s 5), none⟩,
    ⟨some 33, .ldl false false 1 5 (.s 32), none⟩,
    ⟨some 34, .slc 1 (.s 29) (some (.s 31)) (some (.s 33)) none, none⟩,
    ⟨some 35, .call 3 n_slices_Clone_byte_byte [(false, (.s 34))], none⟩,
    ⟨some 36, .fa 2 (.s 5), none⟩,
    ⟨some 37, .ldl false false 1 5 (.s 36), none⟩,
    ⟨some 2, .mv true (.s 35), none⟩,
    ⟨some 3, .mv false (.s 37), none⟩,
    ⟨some 4, .mv false (.c (.int .i64 0)), none⟩] [])
  (.ret))))), true⟩
/-- bailey/baileyref10.Next -/
def tf_ref10_Next : TF := ⟨47, [.tmp 2, .tmp 3, .tmp 4],
  .seq (.reg [⟨some 2, .mv true (.c (.nils)), none⟩,
    ⟨some 3, .mv false (.c (.int .i64 0)), none⟩,
    ⟨some 4, .mv false (.c (.int .i64 0)), none⟩] [2, 3, 4])
  (.seq (.reg [⟨some 10, .mv false (.s 0), none⟩,
    ⟨some 11, .call 0 n_ref02_Open [(false, (.s 10))], none⟩,
    ⟨some 5, .mv false (.s 11), none⟩] [10, 11])
  (.seq (.reg [⟨some 12, .mv false (.s 5), none⟩,
    ⟨some 13, .call 0 n_ref02_Reader_Num [(false, (.s 12)), (false, (.c (.int .i64 262144)))], none⟩,
    ⟨some 6, .mv false (.s 13), none⟩] [12, 13])
  (.seq (.seq (.reg [⟨some 14, .mv false (.s 5), none⟩,
    ⟨some 15, .call 0 n_ref02_Reader_Err [(false, (.s 14))], none⟩,
    ⟨some 16, .ar .neq (.s 15) (.c (.int .i64 0)), none⟩] [14, 15])
  (.cond (.s 16) (.seq (.reg [⟨some 17, .mv false (.s 5), none⟩,
    ⟨some 18, .call 0 n_ref02_Reader_Err [(false, (.s 17))], none⟩,
    ⟨some 2, .mv true (.c (.nils)), none⟩,
    ⟨some 3, .mv false (.c (.int .i64 0)), none⟩,
    ⟨some 4, .mv false (.s 18), none⟩] [])
  (.ret))
  (.skip)))
  (.seq (.seq (.reg [⟨some 19, .mv false (.s 5), none⟩,
    ⟨some 20, .call 0 n_ref02_Reader_Left [(false, (.s 19))], none⟩,
    ⟨some 21, .mv false (.s 6), none⟩,
    ⟨some 22, .ar .add (.s 21) (.c (.int .i64 4)), none⟩,
    ⟨some 23, .ar .lss (.s 20) (.s 22), none⟩] [16, 19, 20, 21, 22])
  (.cond (.s 23) (.seq (.reg [⟨some 2, .mv true (.c (.nils)), none⟩,
    ⟨some 3, .mv false (.c (.int .i64 0)), none⟩,
    ⟨some 4, .mv false (.c (.int .i64 4)), none⟩] [])
  (.ret))
  (.skip)))
  (.seq (.reg [⟨some 24, .mv false (.s 5), none⟩,
    ⟨some 25, .nilc (.s 24), none⟩,
    ⟨some 26, .fa 0 (.s 25), none⟩,
    ⟨some 27, .ldh false false 1 (.s 26), none⟩,
    ⟨some 28, .mv false (.s 6), none⟩,
    ⟨some 29, .slc 1 (.s 27) none (some (.s 28)) none, none⟩,
    ⟨some 7, .mv true (.s 29), none⟩] [5, 6, 23, 24, 25, 26, 27, 28, 29])
  (.seq (.reg [⟨some 31, .mv false (.s 7), none⟩,
    ⟨some 32, .call 0 n_ref10_Seal [(false, (.s 31))], none⟩,
    ⟨some 30, .mv true (.s 32), none⟩,
    ⟨some 33, .ext true 0 (.s 30), none⟩,
    ⟨some 34, .ext false 1 (.s 30), none⟩,
    ⟨some 8, .mv true (.s 33), none⟩,
    ⟨some 9, .mv false (.s 34), none⟩] [9, 30, 31, 32, 33, 34])
  (.seq (.seq (.reg [⟨some 35, .mv false (.s 8), none⟩,
    ⟨some 36, .cvs (.s 35), none⟩,
    ⟨some 37, .mv false (.s 0), none⟩,
    ⟨some 38, .mv false (.s 8), none⟩,
    ⟨some 39, .len false (.s 38), none⟩,
    ⟨some 40, .slc 1 (.s 37) none (some (.s 39)) none, none⟩,
    ⟨some 41, .cvs (.s 40), none⟩,
    ⟨some 42, .ar .neq (.s 36) (.s 41), none⟩] [0, 35, 36, 37, 38, 39, 40, 41])
  (.cond (.s 42) (.seq (.reg [⟨some 2, .mv true (.c (.nils)), none⟩,
    ⟨some 3, .mv false (.c (.int .i64 0)), none⟩,
    ⟨some 4, .mv false (.c (.int .i64 9)), none⟩] [])
  (.ret))
  (.skip)))
  (.seq (.reg [⟨some 43, .mv false (.s 7), none⟩,
    ⟨some 44, .app true 1 1 (.c (.nils)) (.s 43), none⟩,
    ⟨some 45, .mv false (.s 8), none⟩,
    ⟨some 46, .len false (.s 45), none⟩,
    ⟨some 2, .mv true (.s 44), none⟩,
    ⟨some 3, .mv false (.s 46), none⟩,
    ⟨some 4, .mv false (.c (.int .i64 0)), none⟩] [])
  (.ret))))))))), true⟩
/-- bailey/frame.sealed -/
def tf_frame_sealed : TF := ⟨15, [.tmp 2],
  .seq (.reg [⟨some 2, .mv true (.c (.nils)), none⟩] [2])
  (.seq (.reg [⟨some 3, .mv false (.s 0), none⟩,
    ⟨some 4, .ar .shr (.s 3) (.c (.int .u64 24)), none⟩,
    ⟨some 5, .cvi .u8 (.s 4), none⟩,
    ⟨some 6, .mv false (.s 0), none⟩,
    ⟨some 7, .ar .shr (.s 6) (.c (.int .u64 16)), none⟩,
    ⟨some 8, .cvi .u8 (.s 7), none⟩,
    ⟨some 9, .mv false (.s 0), none⟩,
    ⟨some 10, .ar .shr (.s 9) (.c (.int .u64 8)), none⟩,
    ⟨some 11, .cvi .u8 (.s 10), none⟩,
    ⟨some 12, .mv false (.s 0), none⟩,
    ⟨some 13, .cvi .u8 (.s 12), none⟩,
    ⟨some 14, .bsl false 1 4 [.int .u8 0] [(0, (.s 5)), (1, (.s 8)), (2, (.s 11)), (3, (.s 13))], none⟩,
    ⟨some 2, .mv true (.s 14), none⟩] [])
  (.ret)), true⟩
/-- bailey/adler.Sum -/
def tf_adler_Sum : TF := ⟨5, [.tmp 2],
  .seq (.reg [⟨some 2, .mv false (.c (.int .u32 0)), none⟩] [2])
  (.seq (.reg [⟨some 3, .mv true (.s 0), none⟩,
    ⟨some 4, .call 0 n_adler_More [(false, (.c (.int .u32 1))), (false, (.s 3))], none⟩,
    ⟨some 2, .mv false (.s 4), none⟩] [])
  (.ret)), true⟩
/-- bailey/baileyref05.Sum -/
def tf_ref05_Sum : TF := ⟨5, [.tmp 2],
  .seq (.reg [⟨some 2, .mv false (.c (.int .u32 0)), none⟩] [2])
  (.seq (.reg [⟨some 3, .mv true (.s 0), none⟩,
    ⟨some 4, .call 0 n_ref05_More [(false, (.c (.int .u32 1))), (false, (.s 3))], none⟩,
    ⟨some 2, .mv false (.s 4), none⟩] [])
  (.ret)), true⟩
/-- bailey/pack.put -/
def lp_pack_put_1 : TC :=
  .seq (.seq (.reg [⟨some 12, .mv false (.s 5), none⟩,
    ⟨some 13, .ar .gtr (.s 12) (.c (.int .i64 0)), none⟩] [12])
  (.cond (.s 13) (.skip)
  (.exit 0)))
  (.seq (.block 1 (.reg [⟨some 16, .mv true (.s 0), none⟩,
    ⟨some 17, .mv false (.s 1), none⟩,
    ⟨some 18, .mv false (.s 5), none⟩,
    ⟨some 19, .ar .shr (.s 17) (.s 18), none⟩,
    ⟨some 20, .cvi .u8 (.s 19), none⟩,
    ⟨some 21, .ar .or (.s 20) (.c (.int .u8 128)), none⟩,
    ⟨some 22, .bsl false 1 1 [.int .u8 0] [(0, (.s 21))], none⟩,
    ⟨some 23, .app true 1 1 (.s 16) (.s 22), none⟩,
    ⟨some 0, .mv true (.s 23), none⟩] [13, 16, 17, 18, 19, 20, 21, 22, 23]))
  (.reg [⟨some 14, .mv false (.s 5), none⟩,
    ⟨some 15, .ar .sub (.s 14) (.c (.int .i64 7)), none⟩,
    ⟨some 5, .mv false (.s 15), none⟩] [14, 15]))
def tf_pack_put : TF := ⟨30, [.tmp 4],
  .seq (.reg [⟨some 4, .mv true (.c (.nils)), none⟩] [4, 5, 12, 13, 14, 15, 16, 17, 18, 19, 20, 21, 22, 23])
  (.seq (.reg [⟨some 6, .mv false (.s 1), none⟩,
    ⟨some 7, .mx (.s 6) (.c (.int .i64 0)), none⟩,
    ⟨some 1, .mv false (.s 7), none⟩] [6, 7])
  (.seq (.seq (.reg [⟨some 8, .mv false (.s 1), none⟩,
    ⟨some 9, .call 0 n_pack_Size [(false, (.s 8))], none⟩,
    ⟨some 10, .ar .sub (.s 9) (.c (.int .i64 1)), none⟩,
    ⟨some 11, .ar .mul (.c (.int .i64 7)) (.s 10), none⟩,
    ⟨some 5, .mv false (.s 11), none⟩] [8, 9, 10, 11])
  (.block 0 (.loop lp_pack_put_1)))
  (.seq (.reg [⟨some 24, .mv true (.s 0), none⟩,
    ⟨some 25, .mv false (.s 1), none⟩,
    ⟨some 26, .cvi .u8 (.s 25), none⟩,
    ⟨some 27, .ar .andNot (.s 26) (.c (.int .u8 128)), none⟩,
    ⟨some 28, .bsl false 1 1 [.int .u8 0] [(0, (.s 27))], none⟩,
    ⟨some 29, .app true 1 1 (.s 24) (.s 28), none⟩,
    ⟨some 4, .mv true (.s 29), none⟩] [])
  (.ret)))), true⟩
/-- bailey/pack.room -/
def tf_pack_room : TF := ⟨17, [.tmp 4],
  .seq (.reg [⟨some 4, .mv true (.c (.nils)), none⟩] [4])
  (.seq (.reg [⟨some 6, .mv false (.s 0), none⟩,
    ⟨some 7, .len false (.s 6), none⟩,
    ⟨some 8, .mv false (.s 0), none⟩,
    ⟨some 9, .len false (.s 8), none⟩,
    ⟨some 10, .mv false (.s 1), none⟩,
    ⟨some 11, .ar .add (.s 9) (.s 10), none⟩,
    ⟨some 12, .mks false 1 1 [.int .u8 0] (.s 7) (.s 11), none⟩,
    ⟨some 5, .mv true (.s 12), none⟩] [1, 6, 7, 8, 9, 10, 11, 12])
  (.seq (.reg [⟨some 13, .mv false (.s 5), none⟩,
    ⟨some 14, .mv false (.s 0), none⟩,
    ⟨some 15, .cpy 1 (.s 13) (.s 14), none⟩] [0, 13, 14, 15])
  (.seq (.reg [⟨some 16, .mv false (.s 5), none⟩,
    ⟨some 4, .mv true (.s 16), none⟩] [])
  (.ret)))), true⟩
/-- bailey/baileyref02.groups -/
def tf_ref02_groups : TF := ⟨17, [.tmp 2],
  .seq (.reg [⟨some 2, .mv true (.c (.nils)), none⟩] [2])
  (.seq (.seq (.reg [⟨some 3, .mv false (.s 0), none⟩,
    ⟨some 4, .ar .lss (.s 3) (.c (.int .i64 128)), none⟩] [3])
  (.cond (.s 4) (.seq (.reg [⟨some 5, .mv false (.s 0), none⟩,
    ⟨some 6, .mx (.s 5) (.c (.int .i64 0)), none⟩,
    ⟨some 7, .cvi .u8 (.s 6), none⟩,
    ⟨some 8, .bsr false 1 1 [.int .u8 0] [(0, (.s 7))], none⟩,
    ⟨some 2, .mv true (.s 8), none⟩] [])
  (.ret))
  (.skip)))
  (.seq (.reg [⟨some 9, .mv false (.s 0), none⟩,
    ⟨some 10, .ar .quo (.s 9) (.c (.int .i64 128)), none⟩,
    ⟨some 11, .call 0 n_ref02_groups [(false, (.s 10))], none⟩,
    ⟨some 12, .mv false (.s 0), none⟩,
    ⟨some 13, .ar .rem (.s 12) (.c (.int .i64 128)), none⟩,
    ⟨some 14, .cvi .u8 (.s 13), none⟩,
    ⟨some 15, .bsl false 1 1 [.int .u8 0] [(0, (.s 14))], none⟩,
    ⟨some 16, .apr false 1 1 (.s 11) (.s 15), none⟩,
    ⟨some 2, .mv true (.s 16), none⟩] [])
  (.ret))), false⟩
/-- bailey/baileyref02.copied -/
def tf_ref02_copied : TF := ⟨5, [.tmp 2],
  .seq (.reg [⟨some 2, .mv true (.c (.nils)), none⟩] [2])
  (.seq (.reg [⟨some 3, .mv true (.s 0), none⟩,
    ⟨some 4, .app true 1 1 (.c (.nils)) (.s 3), none⟩,
    ⟨some 2, .mv true (.s 4), none⟩] [])
  (.ret)), true⟩
/-- (*bailey/pack.Reader).works -/
def tf_pack_Reader_works : TF := ⟨18, [.tmp 2],
  .seq (.reg [⟨some 2, .mv false (.c (.bool false)), none⟩] [2])
  (.seq (.reg [⟨some 3, .mv false (.s 0), none⟩,
    ⟨some 4, .eqp true (.s 3) (.c (.nilp)), none⟩,
    ⟨some 5, .mv false (.s 4), none⟩,
    ⟨some 6, .mv false (.s 0), (some (5, true))⟩,
    ⟨some 7, .nilc (.s 6), (some (5, true))⟩,
    ⟨some 8, .fa 2 (.s 7), (some (5, true))⟩,
    ⟨some 9, .ldh false false 1 (.s 8), (some (5, true))⟩,
    ⟨some 10, .pick (.s 5) (.s 9) (.c (.bool false)), none⟩,
    ⟨some 11, .mv false (.s 10), none⟩,
    ⟨some 12, .mv false (.s 0), (some (11, true))⟩,
    ⟨some 13, .nilc (.s 12), (some (11, true))⟩,
    ⟨some 14, .fa 1 (.s 13), (some (11, true))⟩,
    ⟨some 15, .ldh false false 1 (.s 14), (some (11, true))⟩,
    ⟨some 16, .ar .eql (.s 15) (.c (.int .i64 0)), (some (11, true))⟩,
    ⟨some 17, .pick (.s 11) (.s 16) (.c (.bool false)), none⟩,
    ⟨some 2, .mv false (.s 17), none⟩] [])
  (.ret)), true⟩
/-- (*bailey/pack.Reader).take -/
def tf_pack_Reader_take : TF := ⟨32, [.tmp 4],
  .seq (.reg [⟨some 4, .mv true (.c (.nils)), none⟩] [4])
  (.seq (.seq (.reg [⟨some 6, .mv false (.s 1), none⟩,
    ⟨some 7, .mv false (.s 0), none⟩,
    ⟨some 8, .nilc (.s 7), none⟩,
    ⟨some 9, .fa 0 (.s 8), none⟩,
    ⟨some 10, .ldh false false 1 (.s 9), none⟩,
    ⟨some 11, .len false (.s 10), none⟩,
    ⟨some 12, .ar .gtr (.s 6) (.s 11), none⟩] [6, 7, 8, 9, 10, 11])
  (.cond (.s 12) (.seq (.reg [⟨some 13, .mv false (.s 0), none⟩,
    ⟨some 14, .call 0 n_pack_Reader_Fail [(false, (.s 13)), (false, (.c (.int .i64 4)))], none⟩] [])
  (.seq (.reg [⟨some 4, .mv true (.c (.nils)), none⟩] [])
  (.ret)))
  (.skip)))
  (.seq (.reg [⟨some 15, .mv false (.s 0), none⟩,
    ⟨some 16, .nilc (.s 15), none⟩,
    ⟨some 17, .fa 0 (.s 16), none⟩,
    ⟨some 18, .ldh false false 1 (.s 17), none⟩,
    ⟨some 19, .mv false (.s 1), none⟩,
    ⟨some 20, .mv false (.s 1), none⟩,
    ⟨some 21, .slc 1 (.s 18) none (some (.s 19)) (some (.s 20)), none⟩,
    ⟨some 5, .mv true (.s 21), none⟩] [12, 15, 16, 17, 18, 19, 20, 21])
  (.seq (.reg [⟨some 22, .mv false (.s 0), none⟩,
    ⟨some 23, .mv false (.s 0), none⟩,
    ⟨some 24, .nilc (.s 23), none⟩,
    ⟨some 25, .fa 0 (.s 24), none⟩,
    ⟨some 26, .ldh false false 1 (.s 25), none⟩,
    ⟨some 27, .mv false (.s 1), none⟩,
    ⟨some 28, .slc 1 (.s 26) (some (.s 27)) none none, none⟩,
    ⟨some 29, .nilc (.s 22), none⟩,
    ⟨some 30, .fa 0 (.s 29), none⟩,
    ⟨none, .sth true 1 (.s 30) (.s 28), none⟩] [0, 1, 22, 23, 24, 25, 26, 27, 28, 29, 30])
  (.seq (.reg [⟨some 31, .mv false (.s 5), none⟩,
    ⟨some 4, .mv true (.s 31), none⟩] [])
  (.ret))))), true⟩
/-- (*bailey/pack.Reader).width -/
def jn_pack_Reader_width_1 : TC :=
  .cond (.s 15) (.seq (.reg [⟨some 28, .mv false (.s 0), none⟩,
    ⟨some 29, .call 0 n_pack_Reader_Fail [(false, (.s 28)), (false, (.c (.int .i64 3)))], none⟩] [])
  (.seq (.reg [⟨some 2, .mv false (.c (.int .i64 0)), none⟩] [])
  (.ret)))
  (.seq (.reg [⟨some 31, .mv false (.s 4), none⟩,
    ⟨some 32, .ar .lss (.s 31) (.c (.int .u8 128)), none⟩,
    ⟨some 30, .mv false (.s 32), none⟩] [4, 15, 31, 32])
  (.cond (.s 30) (.seq (.reg [⟨some 33, .mv false (.s 3), none⟩,
    ⟨some 34, .ar .add (.s 33) (.c (.int .i64 1)), none⟩,
    ⟨some 2, .mv false (.s 34), none⟩] [])
  (.ret))
  (.skip)))
def lp_pack_Reader_width_2 : TC :=
  .seq (.reg [⟨some 11, .ar .lss (.s 10) (.s 9), none⟩] [])
  (.seq (.cond (.s 11) (.skip)
  (.exit 0))
  (.seq (.block 1 (.seq (.reg [⟨some 12, .mv false (.s 10), none⟩,
    ⟨some 13, .ia 1 (.s 8) (.s 10), none⟩,
    ⟨some 14, .ldh false false 1 (.s 13), none⟩,
    ⟨some 3, .mv false (.s 12), none⟩,
    ⟨some 4, .mv false (.s 14), none⟩] [11, 12, 13, 14])
  (.block 2 (.seq (.seq (.reg [⟨some 16, .mv false (.s 3), none⟩,
    ⟨some 17, .ar .eql (.s 16) (.c (.int .i64 0)), none⟩,
    ⟨some 18, .mv false (.s 17), none⟩,
    ⟨some 19, .mv false (.s 4), (some (18, true))⟩,
    ⟨some 20, .ar .eql (.s 19) (.c (.int .u8 128)), (some (18, true))⟩,
    ⟨some 21, .pick (.s 18) (.s 20) (.c (.bool false)), none⟩,
    ⟨some 15, .mv false (.s 21), none⟩] [16, 17, 18, 19, 20, 21])
  (.cond (.s 15) (.skip)
  (.reg [⟨some 22, .mv false (.s 3), none⟩,
    ⟨some 23, .ar .eql (.s 22) (.c (.int .i64 8)), none⟩,
    ⟨some 24, .mv false (.s 23), none⟩,
    ⟨some 25, .mv false (.s 4), (some (24, true))⟩,
    ⟨some 26, .ar .geq (.s 25) (.c (.int .u8 128)), (some (24, true))⟩,
    ⟨some 27, .pick (.s 24) (.s 26) (.c (.bool false)), none⟩,
    ⟨some 15, .mv false (.s 27), none⟩] [22, 23, 24, 25, 26, 27])))
  (jn_pack_Reader_width_1)))))
  (.reg [⟨some 35, .ar .add (.s 10) (.c (.int .i64 1)), none⟩,
    ⟨some 10, .mv false (.s 35), none⟩] [3, 30, 35])))
def tf_pack_Reader_width : TF := ⟨38, [.tmp 2],
  .seq (.reg [⟨some 2, .mv false (.c (.int .i64 0)), none⟩] [2, 3, 4, 10, 11, 12, 13, 14, 15, 16, 17, 18, 19, 20, 21, 22, 23, 24, 25, 26, 27, 28, 29, 30, 31, 32, 33, 34, 35])
  (.seq (.seq (.reg [⟨some 5, .mv false (.s 0), none⟩,
    ⟨some 6, .nilc (.s 5), none⟩,
    ⟨some 7, .fa 0 (.s 6), none⟩,
    ⟨some 8, .ldh false false 1 (.s 7), none⟩,
    ⟨some 9, .len false (.s 8), none⟩,
    ⟨some 10, .mv false (.c (.int .i64 0)), none⟩] [5, 6, 7])
  (.block 0 (.loop lp_pack_Reader_width_2)))
  (.seq (.reg [⟨some 36, .mv false (.s 0), none⟩,
    ⟨some 37, .call 0 n_pack_Reader_Fail [(false, (.s 36)), (false, (.c (.int .i64 4)))], none⟩] [])
  (.seq (.reg [⟨some 2, .mv false (.c (.int .i64 0)), none⟩] [])
  (.ret)))), true⟩
/-- bailey/frame.parted -/
def tf_frame_parted : TF := ⟨41, [.cell 2 true 3, .tmp 3],
  .seq (.reg [⟨some 2, .lal [.int .i64 0, .int .i64 0, .int .i64 0], none⟩,
    ⟨some 3, .mv false (.c (.int .i64 0)), none⟩] [3])
  (.seq (.reg [⟨some 9, .mv false (.s 0), none⟩,
    ⟨some 10, .mv false (.s 0), none⟩,
    ⟨some 11, .len false (.s 10), none⟩,
    ⟨some 12, .mn (.s 11) (.c (.int .i64 16)), none⟩,
    ⟨some 13, .slc 1 (.s 9) none (some (.s 12)) none, none⟩,
    ⟨some 14, .call 0 n_pack_Open [(false, (.s 13))], none⟩,
    ⟨some 4, .mv false (.s 14), none⟩] [9, 10, 11, 12, 13, 14])
  (.seq (.reg [⟨some 15, .mv false (.s 4), none⟩,
    ⟨some 16, .call 0 n_pack_Reader_Num [(false, (.s 15)), (false, (.c (.int .i64 262144)))], none⟩,
    ⟨some 5, .mv false (.s 16), none⟩] [15, 16])
  (.seq (.seq (.reg [⟨some 17, .mv false (.s 4), none⟩,
    ⟨some 18, .call 0 n_pack_Reader_Err [(false, (.s 17))], none⟩,
    ⟨some 6, .mv false (.s 18), none⟩] [4, 17, 18])
  (.seq (.reg [⟨some 19, .mv false (.s 6), none⟩,
    ⟨some 20, .ar .neq (.s 19) (.c (.int .i64 0)), none⟩] [19])
  (.cond (.s 20) (.seq (.reg [⟨some 21, .build [.int .i64 0, .int .i64 0, .int .i64 0] [], none⟩,
    ⟨some 22, .mv false (.s 6), none⟩,
    ⟨none, .stl false 3 2 (.s 2) (.s 21), none⟩,
    ⟨some 3, .mv false (.s 22), none⟩] [])
  (.ret))
  (.skip))))
  (.seq (.reg [⟨some 23, .mv false (.s 5), none⟩,
    ⟨some 24, .call 0 n_pack_Size [(false, (.s 23))], none⟩,
    ⟨some 7, .mv false (.s 24), none⟩] [6, 20, 23, 24])
  (.seq (.reg [⟨some 25, .mv false (.s 7), none⟩,
    ⟨some 26, .mv false (.s 7), none⟩,
    ⟨some 27, .mv false (.s 5), none⟩,
    ⟨some 28, .ar .add (.s 26) (.s 27), none⟩,
    ⟨some 29, .mv false (.s 7), none⟩,
    ⟨some 30, .mv false (.s 5), none⟩,
    ⟨some 31, .ar .add (.s 29) (.s 30), none⟩,
    ⟨some 32, .ar .add (.s 31) (.c (.int .i64 4)), none⟩,
    ⟨some 33, .build [.int .i64 0, .int .i64 0, .int .i64 0] [(0, 1, (.s 25)), (1, 1, (.s 28)), (2, 1, (.s 32))], none⟩,
    ⟨some 8, .lal [.int .i64 0, .int .i64 0, .int .i64 0], none⟩,
    ⟨none, .stl false 3 8 (.s 8) (.s 33), none⟩] [5, 7, 25, 26, 27, 28, 29, 30, 31, 32, 33])
  (.seq (.seq (.reg [⟨some 34, .fa 2 (.s 8), none⟩,
    ⟨some 35, .ldl false false 1 8 (.s 34), none⟩,
    ⟨some 36, .mv false (.s 0), none⟩,
    ⟨some 37, .len false (.s 36), none⟩,
    ⟨some 38, .ar .gtr (.s 35) (.s 37), none⟩] [0, 34, 35, 36, 37])
  (.cond (.s 38) (.seq (.reg [⟨some 39, .build [.int .i64 0, .int .i64 0, .int .i64 0] [], none⟩,
    ⟨none, .stl false 3 2 (.s 2) (.s 39), none⟩,
    ⟨some 3, .mv false (.c (.int .i64 4)), none⟩] [])
  (.ret))
  (.skip)))
  (.seq (.reg [⟨some 40, .ldl false true 3 8 (.s 8), none⟩,
    ⟨none, .stl false 3 2 (.s 2) (.s 40), none⟩,
    ⟨some 3, .mv false (.c (.int .i64 0)), none⟩] [])
  (.ret)))))))), true⟩
/-- bailey/adler.More -/
def lp_adler_More_1 : TC :=
  .seq (.reg [⟨some 22, .ar .lss (.s 21) (.s 20), none⟩] [])
  (.seq (.cond (.s 22) (.skip)
  (.exit 2))
  (.seq (.block 3 (.seq (.reg [⟨some 23, .ia 1 (.s 19) (.s 21), none⟩,
    ⟨some 24, .ldh false false 1 (.s 23), none⟩,
    ⟨some 8, .mv false (.s 24), none⟩] [22, 23, 24])
  (.seq (.reg [⟨some 25, .fa 0 (.s 5), none⟩,
    ⟨some 26, .ldl false false 1 5 (.s 25), none⟩,
    ⟨some 27, .mv false (.s 8), none⟩,
    ⟨some 28, .cvi .u32 (.s 27), none⟩,
    ⟨some 29, .ar .add (.s 26) (.s 28), none⟩,
    ⟨some 30, .fa 0 (.s 5), none⟩,
    ⟨none, .stl false 1 5 (.s 30) (.s 29), none⟩] [8, 25, 26, 27, 28, 29, 30])
  (.reg [⟨some 31, .fa 1 (.s 5), none⟩,
    ⟨some 32, .ldl false false 1 5 (.s 31), none⟩,
    ⟨some 33, .fa 0 (.s 5), none⟩,
    ⟨some 34, .ldl false false 1 5 (.s 33), none⟩,
    ⟨some 35, .ar .add (.s 32) (.s 34), none⟩,
    ⟨some 36, .fa 1 (.s 5), none⟩,
    ⟨none, .stl false 1 5 (.s 36) (.s 35), none⟩] [31, 32, 33, 34, 35, 36]))))
  (.reg [⟨some 37, .ar .add (.s 21) (.c (.int .i64 1)), none⟩,
    ⟨some 21, .mv false (.s 37), none⟩] [37])))
def lp_adler_More_2 : TC :=
  .seq (.seq (.reg [⟨some 11, .mv false (.s 1), none⟩,
    ⟨some 12, .len false (.s 11), none⟩,
    ⟨some 13, .ar .gtr (.s 12) (.c (.int .i64 0)), none⟩] [11, 12])
  (.cond (.s 13) (.skip)
  (.exit 0)))
  (.block 1 (.seq (.reg [⟨some 14, .mv false (.s 1), none⟩,
    ⟨some 15, .len false (.s 14), none⟩,
    ⟨some 16, .mn (.s 15) (.c (.int .i64 5000)), none⟩,
    ⟨some 6, .mv false (.s 16), none⟩] [13, 14, 15, 16])
  (.seq (.seq (.reg [⟨some 17, .mv false (.s 1), none⟩,
    ⟨some 18, .mv false (.s 6), none⟩,
    ⟨some 19, .slc 1 (.s 17) none (some (.s 18)) none, none⟩,
    ⟨some 20, .len false (.s 19), none⟩,
    ⟨some 21, .mv false (.c (.int .i64 0)), none⟩] [17, 18])
  (.block 2 (.loop lp_adler_More_1)))
  (.seq (.reg [⟨some 38, .fa 0 (.s 5), none⟩,
    ⟨some 39, .ldl false false 1 5 (.s 38), none⟩,
    ⟨some 40, .ar .rem (.s 39) (.c (.int .u32 65521)), none⟩,
    ⟨some 41, .fa 0 (.s 5), none⟩,
    ⟨none, .stl false 1 5 (.s 41) (.s 40), none⟩] [19, 20, 21, 22, 38, 39, 40, 41])
  (.seq (.reg [⟨some 42, .fa 1 (.s 5), none⟩,
    ⟨some 43, .ldl false false 1 5 (.s 42), none⟩,
    ⟨some 44, .ar .rem (.s 43) (.c (.int .u32 65521)), none⟩,
    ⟨some 45, .fa 1 (.s 5), none⟩,
    ⟨none, .stl false 1 5 (.s 45) (.s 44), none⟩] [42, 43, 44, 45])
  (.reg [⟨some 46, .mv false (.s 1), none⟩,
    ⟨some 47, .mv false (.s 6), none⟩,
    ⟨some 48, .slc 1 (.s 46) (some (.s 47)) none none, none⟩,
    ⟨some 1, .mv true (.s 48), none⟩] [6, 46, 47, 48]))))))
def tf_adler_More : TF := ⟨51, [.tmp 4],
  .seq (.reg [⟨some 4, .mv false (.c (.int .u32 0)), none⟩] [4, 6, 8, 11, 12, 13, 14, 15, 16, 17, 18, 19, 20, 21, 22, 23, 24, 25, 26, 27, 28, 29, 30, 31, 32, 33, 34, 35, 36, 37, 38, 39, 40, 41, 42, 43, 44, 45, 46, 47, 48])
  (.seq (.reg [⟨some 9, .mv false (.s 0), none⟩,
    ⟨some 10, .call 0 n_adler_of [(false, (.s 9))], none⟩,
    ⟨some 5, .lal [.int .u32 0, .int .u32 0], none⟩,
    ⟨none, .stl false 2 5 (.s 5) (.s 10), none⟩] [0, 9, 10])
  (.seq (.block 0 (.loop lp_adler_More_2))
  (.seq (.reg [⟨some 49, .ldl false true 2 5 (.s 5), none⟩,
    ⟨some 50, .call 0 n_adler_halves_sum [(false, (.s 49))], none⟩,
    ⟨some 4, .mv false (.s 50), none⟩] [])
  (.ret)))), true⟩
/-- bailey/baileyref05.More -/
def lp_ref05_More_1 : TC :=
  .seq (.seq (.reg [⟨some 12, .mv false (.s 7), none⟩,
    ⟨some 13, .mv false (.s 1), none⟩,
    ⟨some 14, .len false (.s 13), none⟩,
    ⟨some 15, .ar .lss (.s 12) (.s 14), none⟩] [12, 13, 14])
  (.cond (.s 15) (.skip)
  (.exit 0)))
  (.seq (.block 1 (.seq (.reg [⟨some 18, .mv false (.s 5), none⟩,
    ⟨some 19, .mv false (.s 1), none⟩,
    ⟨some 20, .mv false (.s 7), none⟩,
    ⟨some 21, .ia 1 (.s 19) (.s 20), none⟩,
    ⟨some 22, .ldh false false 1 (.s 21), none⟩,
    ⟨some 23, .cvi .i64 (.s 22), none⟩,
    ⟨some 24, .ar .add (.s 18) (.s 23), none⟩,
    ⟨some 25, .ar .rem (.s 24) (.c (.int .i64 65521)), none⟩,
    ⟨some 5, .mv false (.s 25), none⟩] [15, 18, 19, 20, 21, 22, 23, 24, 25])
  (.reg [⟨some 26, .mv false (.s 6), none⟩,
    ⟨some 27, .mv false (.s 5), none⟩,
    ⟨some 28, .ar .add (.s 26) (.s 27), none⟩,
    ⟨some 29, .ar .rem (.s 28) (.c (.int .i64 65521)), none⟩,
    ⟨some 6, .mv false (.s 29), none⟩] [26, 27, 28, 29])))
  (.reg [⟨some 16, .mv false (.s 7), none⟩,
    ⟨some 17, .ar .add (.s 16) (.c (.int .i64 1)), none⟩,
    ⟨some 7, .mv false (.s 17), none⟩] [16, 17]))
def tf_ref05_More : TF := ⟨33, [.tmp 4],
  .seq (.reg [⟨some 4, .mv false (.c (.int .u32 0)), none⟩] [4, 5, 6, 7, 12, 13, 14, 15, 16, 17, 18, 19, 20, 21, 22, 23, 24, 25, 26, 27, 28, 29])
  (.seq (.reg [⟨some 8, .mv false (.s 0), none⟩,
    ⟨some 9, .call 0 n_ref05_low [(false, (.s 8))], none⟩,
    ⟨some 10, .mv false (.s 0), none⟩,
    ⟨some 11, .call 0 n_ref05_high [(false, (.s 10))], none⟩,
    ⟨some 5, .mv false (.s 9), none⟩,
    ⟨some 6, .mv false (.s 11), none⟩] [0, 8, 9, 10, 11])
  (.seq (.seq (.reg [⟨some 7, .mv false (.c (.int .i64 0)), none⟩] [])
  (.block 0 (.loop lp_ref05_More_1)))
  (.seq (.reg [⟨some 30, .mv false (.s 5), none⟩,
    ⟨some 31, .mv false (.s 6), none⟩,
    ⟨some 32, .call 0 n_ref05_of [(false, (.s 30)), (false, (.s 31))], none⟩,
    ⟨some 4, .mv false (.s 32), none⟩] [])
  (.ret)))), true⟩
/-- bailey/adler.of -/
def tf_adler_of : TF := ⟨10, [.cell 2 true 2],
  .seq (.reg [⟨some 2, .lal [.int .u32 0, .int .u32 0], none⟩] [])
  (.seq (.reg [⟨some 3, .mv false (.s 0), none⟩,
    ⟨some 4, .ar .and (.s 3) (.c (.int .u32 65535)), none⟩,
    ⟨some 5, .ar .rem (.s 4) (.c (.int .u32 65521)), none⟩,
    ⟨some 6, .mv false (.s 0), none⟩,
    ⟨some 7, .ar .shr (.s 6) (.c (.int .u64 16)), none⟩,
    ⟨some 8, .ar .rem (.s 7) (.c (.int .u32 65521)), none⟩,
    ⟨some 9, .build [.int .u32 0, .int .u32 0] [(0, 1, (.s 5)), (1, 1, (.s 8))], none⟩,
    ⟨none, .stl false 2 2 (.s 2) (.s 9), none⟩] [])
  (.ret)), true⟩
/-- (bailey/adler.halves).sum -/
def tf_adler_halves_sum : TF := ⟨9, [.tmp 2],
  .seq (.reg [⟨some 1, .lbx false (.s 0), none⟩,
    ⟨some 2, .mv false (.c (.int .u32 0)), none⟩] [0, 2])
  (.seq (.reg [⟨some 3, .fa 1 (.s 1), none⟩,
    ⟨some 4, .ldl false false 1 1 (.s 3), none⟩,
    ⟨some 5, .ar .shl (.s 4) (.c (.int .u64 16)), none⟩,
    ⟨some 6, .fa 0 (.s 1), none⟩,
    ⟨some 7, .ldl false false 1 1 (.s 6), none⟩,
    ⟨some 8, .ar .or (.s 5) (.s 7), none⟩,
    ⟨some 2, .mv false (.s 8), none⟩] [])
  (.ret)), true⟩
/-- bailey/baileyref05.low -/
def tf_ref05_low : TF := ⟨7, [.tmp 2],
  .seq (.reg [⟨some 2, .mv false (.c (.int .i64 0)), none⟩] [2])
  (.seq (.reg [⟨some 3, .mv false (.s 0), none⟩,
    ⟨some 4, .ar .rem (.s 3) (.c (.int .u32 65536)), none⟩,
    ⟨some 5, .cvi .i64 (.s 4), none⟩,
    ⟨some 6, .ar .rem (.s 5) (.c (.int .i64 65521)), none⟩,
    ⟨some 2, .mv false (.s 6), none⟩] [])
  (.ret)), true⟩
/-- bailey/baileyref05.high -/
def tf_ref05_high : TF := ⟨7, [.tmp 2],
  .seq (.reg [⟨some 2, .mv false (.c (.int .i64 0)), none⟩] [2])
  (.seq (.reg [⟨some 3, .mv false (.s 0), none⟩,
    ⟨some 4, .ar .quo (.s 3) (.c (.int .u32 65536)), none⟩,
    ⟨some 5, .cvi .i64 (.s 4), none⟩,
    ⟨some 6, .ar .rem (.s 5) (.c (.int .i64 65521)), none⟩,
    ⟨some 2, .mv false (.s 6), none⟩] [])
  (.ret)), true⟩
/-- bailey/baileyref05.of -/
def jn_ref05_of_1 : TC :=
  .seq (.reg [⟨some 17, .mv false (.s 1), none⟩,
    ⟨some 18, .ar .mul (.s 17) (.c (.int .i64 65536)), none⟩,
    ⟨some 19, .mv false (.s 0), none⟩,
    ⟨some 20, .ar .add (.s 18) (.s 19), none⟩,
    ⟨some 21, .cvi .u32 (.s 20), none⟩,
    ⟨some 4, .mv false (.s 21), none⟩] [])
  (.ret)
def jn_ref05_of_2 : TC :=
  .seq (.seq (.reg [⟨some 13, .mv false (.s 1), none⟩,
    ⟨some 14, .ar .lss (.s 13) (.c (.int .i64 0)), none⟩] [10, 13])
  (.cond (.s 14) (.reg [⟨some 15, .mv false (.s 1), none⟩,
    ⟨some 16, .ar .add (.s 15) (.c (.int .i64 65521)), none⟩,
    ⟨some 1, .mv false (.s 16), none⟩] [14, 15, 16])
  (.skip)))
  (jn_ref05_of_1)
def tf_ref05_of : TF := ⟨22, [.tmp 4],
  .seq (.reg [⟨some 4, .mv false (.c (.int .u32 0)), none⟩] [4])
  (.seq (.reg [⟨some 5, .mv false (.s 0), none⟩,
    ⟨some 6, .ar .rem (.s 5) (.c (.int .i64 65521)), none⟩,
    ⟨some 7, .mv false (.s 1), none⟩,
    ⟨some 8, .ar .rem (.s 7) (.c (.int .i64 65521)), none⟩,
    ⟨some 0, .mv false (.s 6), none⟩,
    ⟨some 1, .mv false (.s 8), none⟩] [5, 6, 7, 8])
  (.seq (.seq (.reg [⟨some 9, .mv false (.s 0), none⟩,
    ⟨some 10, .ar .lss (.s 9) (.c (.int .i64 0)), none⟩] [9])
  (.cond (.s 10) (.reg [⟨some 11, .mv false (.s 0), none⟩,
    ⟨some 12, .ar .add (.s 11) (.c (.int .i64 65521)), none⟩,
    ⟨some 0, .mv false (.s 12), none⟩] [10, 11, 12])
  (.skip)))
  (jn_ref05_of_2))), true⟩
theorem ok_law02_PackOne : chkF Go.Proofs.Try.prog n_law02_PackOne tf_law02_PackOne = true := by kernel_rfl
theorem ok_law02_PackBack : chkF Go.Proofs.Try.prog n_law02_PackBack tf_law02_PackBack = true := by kernel_rfl
theorem ok_law10_FrameNext : chkF Go.Proofs.Try.prog n_law10_FrameNext tf_law10_FrameNext = true := by kernel_rfl
theorem ok_law10_awake : chkF Go.Proofs.Try.prog n_law10_awake tf_law10_awake = true := by kernel_rfl
theorem ok_frame_Seal : chkF Go.Proofs.Try.prog n_frame_Seal tf_frame_Seal = true := by kernel_rfl
theorem ok_ref10_Seal : chkF Go.Proofs.Try.prog n_ref10_Seal tf_ref10_Seal = true := by kernel_rfl
theorem ok_slices_Equal_byte_byte : chkF Go.Proofs.Try.prog n_slices_Equal_byte_byte tf_slices_Equal_byte_byte = true := by kernel_rfl
theorem ok_law02_awake : chkF Go.Proofs.Try.prog n_law02_awake tf_law02_awake = true := by kernel_rfl
theorem ok_pack_Num : chkF Go.Proofs.Try.prog n_pack_Num tf_pack_Num = true := by kernel_rfl
theorem ok_ref02_Num : chkF Go.Proofs.Try.prog n_ref02_Num tf_ref02_Num = true := by kernel_rfl
theorem ok_pack_Text : chkF Go.Proofs.Try.prog n_pack_Text tf_pack_Text = true := by kernel_rfl
theorem ok_ref02_Text : chkF Go.Proofs.Try.prog n_ref02_Text tf_ref02_Text = true := by kernel_rfl
theorem ok_pack_Yes : chkF Go.Proofs.Try.prog n_pack_Yes tf_pack_Yes = true := by kernel_rfl
theorem ok_pack_Size : chkF Go.Proofs.Try.prog n_pack_Size tf_pack_Size = true := by kernel_rfl
theorem ok_pack_Open : chkF Go.Proofs.Try.prog n_pack_Open tf_pack_Open = true := by kernel_rfl
theorem ok_pack_Reader_Num : chkF Go.Proofs.Try.prog n_pack_Reader_Num tf_pack_Reader_Num = true := by kernel_rfl
theorem ok_pack_Reader_Err : chkF Go.Proofs.Try.prog n_pack_Reader_Err tf_pack_Reader_Err = true := by kernel_rfl
theorem ok_pack_Reader_Left : chkF Go.Proofs.Try.prog n_pack_Reader_Left tf_pack_Reader_Left = true := by kernel_rfl
theorem ok_pack_Reader_Fail : chkF Go.Proofs.Try.prog n_pack_Reader_Fail tf_pack_Reader_Fail = true := by kernel_rfl
theorem ok_pack_Reader_Text : chkF Go.Proofs.Try.prog n_pack_Reader_Text tf_pack_Reader_Text = true := by kernel_rfl
theorem ok_pack_Reader_Yes : chkF Go.Proofs.Try.prog n_pack_Reader_Yes tf_pack_Reader_Yes = true := by kernel_rfl
theorem ok_ref02_Open : chkF Go.Proofs.Try.prog n_ref02_Open tf_ref02_Open = true := by kernel_rfl
theorem ok_ref02_Reader_Num : chkF Go.Proofs.Try.prog n_ref02_Reader_Num tf_ref02_Reader_Num = true := by kernel_rfl
theorem ok_ref02_Reader_Fail : chkF Go.Proofs.Try.prog n_ref02_Reader_Fail tf_ref02_Reader_Fail = true := by kernel_rfl
theorem ok_ref02_Reader_Left : chkF Go.Proofs.Try.prog n_ref02_Reader_Left tf_ref02_Reader_Left = true := by kernel_rfl
theorem ok_ref02_Reader_Err : chkF Go.Proofs.Try.prog n_ref02_Reader_Err tf_ref02_Reader_Err = true := by kernel_rfl
theorem ok_frame_Next : chkF Go.Proofs.Try.prog n_frame_Next tf_frame_Next = true := by kernel_rfl
theorem ok_ref10_Next : chkF Go.Proofs.Try.prog n_ref10_Next tf_ref10_Next = true := by kernel_rfl
theorem ok_frame_sealed : chkF Go.Proofs.Try.prog n_frame_sealed tf_frame_sealed = true := by kernel_rfl
theorem ok_adler_Sum : chkF Go.Proofs.Try.prog n_adler_Sum tf_adler_Sum = true := by kernel_rfl
theorem ok_ref05_Sum : chkF Go.Proofs.Try.prog n_ref05_Sum tf_ref05_Sum = true := by kernel_rfl
theorem ok_pack_put : chkF Go.Proofs.Try.prog n_pack_put tf_pack_put = true := by kernel_rfl
theorem ok_pack_room : chkF Go.Proofs.Try.prog n_pack_room tf_pack_room = true := by kernel_rfl
theorem ok_ref02_groups : chkF Go.Proofs.Try.prog n_ref02_groups tf_ref02_groups = true := by kernel_rfl
theorem ok_ref02_copied : chkF Go.Proofs.Try.prog n_ref02_copied tf_ref02_copied = true := by kernel_rfl
theorem ok_pack_Reader_works : chkF Go.Proofs.Try.prog n_pack_Reader_works tf_pack_Reader_works = true := by kernel_rfl
theorem ok_pack_Reader_take : chkF Go.Proofs.Try.prog n_pack_Reader_take tf_pack_Reader_take = true := by kernel_rfl
theorem ok_pack_Reader_width : chkF Go.Proofs.Try.prog n_pack_Reader_width tf_pack_Reader_width = true := by kernel_rfl
theorem ok_frame_parted : chkF Go.Proofs.Try.prog n_frame_parted tf_frame_parted = true := by kernel_rfl
theorem ok_adler_More : chkF Go.Proofs.Try.prog n_adler_More tf_adler_More = true := by kernel_rfl
theorem ok_ref05_More : chkF Go.Proofs.Try.prog n_ref05_More tf_ref05_More = true := by kernel_rfl
theorem ok_adler_of : chkF Go.Proofs.Try.prog n_adler_of tf_adler_of = true := by kernel_rfl
theorem ok_adler_halves_sum : chkF Go.Proofs.Try.prog n_adler_halves_sum tf_adler_halves_sum = true := by kernel_rfl
theorem ok_ref05_low : chkF Go.Proofs.Try.prog n_ref05_low tf_ref05_low = true := by kernel_rfl
theorem ok_ref05_high : chkF Go.Proofs.Try.prog n_ref05_high tf_ref05_high = true := by kernel_rfl
theorem ok_ref05_of : chkF Go.Proofs.Try.prog n_ref05_of tf_ref05_of = true := by kernel_rfl
def tab : Nat → Option TF := fun f => match f with
  | 5 => some tf_law02_PackOne
  | 7 => some tf_law02_PackBack
  | 9 => some tf_law10_FrameNext
  | 12 => some tf_law10_awake
  | 13 => some tf_frame_Seal
  | 14 => some tf_ref10_Seal
  | 15 => some tf_slices_Equal_byte_byte
  | 16 => some tf_law02_awake
  | 18 => some tf_pack_Num
  | 19 => some tf_ref02_Num
  | 20 => some tf_pack_Text
  | 21 => some tf_ref02_Text
  | 22 => some tf_pack_Yes
  | 24 => some tf_pack_Size
  | 26 => some tf_pack_Open
  | 27 => some tf_pack_Reader_Num
  | 28 => some tf_pack_Reader_Err
  | 29 => some tf_pack_Reader_Left
  | 30 => some tf_pack_Reader_Fail
  | 31 => some tf_pack_Reader_Text
  | 32 => some tf_pack_Reader_Yes
  | 34 => some tf_ref02_Open
  | 35 => some tf_ref02_Reader_Num
  | 38 => some tf_ref02_Reader_Fail
  | 39 => some tf_ref02_Reader_Left
  | 40 => some tf_ref02_Reader_Err
  | 42 => some tf_frame_Next
  | 43 => some tf_ref10_Next
  | 48 => some tf_frame_sealed
  | 49 => some tf_adler_Sum
  | 50 => some tf_ref05_Sum
  | 51 => some tf_pack_put
  | 52 => some tf_pack_room
  | 53 => some tf_ref02_groups
  | 54 => some tf_ref02_copied
  | 55 => some tf_pack_Reader_works
  | 56 => some tf_pack_Reader_take
  | 57 => some tf_pack_Reader_width
  | 58 => some tf_frame_parted
  | 60 => some tf_adler_More
  | 61 => some tf_ref05_More
  | 63 => some tf_adler_of
  | 64 => some tf_adler_halves_sum
  | 65 => some tf_ref05_low
  | 66 => some tf_ref05_high
  | 67 => some tf_ref05_of
  | _ => none
theorem tabOk : TabSound Go.Proofs.Try.prog tab := by
  intro f tf h
  unfold tab at h
  split at h
  · obtain rfl := Option.some.inj h; exact ok_law02_PackOne
  · obtain rfl := Option.some.inj h; exact ok_law02_PackBack
  · obtain rfl := Option.some.inj h; exact ok_law10_FrameNext
  · obtain rfl := Option.some.inj h; exact ok_law10_awake
  · obtain rfl := Option.some.inj h; exact ok_frame_Seal
  · obtain rfl := Option.some.inj h; exact ok_ref10_Seal
  · obtain rfl := Option.some.inj h; exact ok_slices_Equal_byte_byte
  · obtain rfl := Option.some.inj h; exact ok_law02_awake
  · obtain rfl := Option.some.inj h; exact ok_pack_Num
  · obtain rfl := Option.some.inj h; exact ok_ref02_Num
  · obtain rfl := Option.some.inj h; exact ok_pack_Text
  · obtain rfl := Option.some.inj h; exact ok_ref02_Text
  · obtain rfl := Option.some.inj h; exact ok_pack_Yes
  · obtain rfl := Option.some.inj h; exact ok_pack_Size
  · obtain rfl := Option.some.inj h; exact ok_pack_Open
  · obtain rfl := Option.some.inj h; exact ok_pack_Reader_Num
  · obtain rfl := Option.some.inj h; exact ok_pack_Reader_Err
  · obtain rfl := Option.some.inj h; exact ok_pack_Reader_Left
  · obtain rfl := Option.some.inj h; exact ok_pack_Reader_Fail
  · obtain rfl := Option.some.inj h; exact ok_pack_Reader_Text
  · obtain rfl := Option.some.inj h; exact ok_pack_Reader_Yes
  · obtain rfl := Option.some.inj h; exact ok_ref02_Open
  · obtain rfl := Option.some.inj h; exact ok_ref02_Reader_Num
  · obtain rfl := Option.some.inj h; exact ok_ref02_Reader_Fail
  · obtain rfl := Option.some.inj h; exact ok_ref02_Reader_Left
  · obtain rfl := Option.some.inj h; exact ok_ref02_Reader_Err
  · obtain rfl := Option.some.inj h; exact ok_frame_Next
  · obtain rfl := Option.some.inj h; exact ok_ref10_Next
  · obtain rfl := Option.some.inj h; exact ok_frame_sealed
  · obtain rfl := Option.some.inj h; exact ok_adler_Sum
  · obtain rfl := Option.some.inj h; exact ok_ref05_Sum
  · obtain rfl := Option.some.inj h; exact ok_pack_put
  · obtain rfl := Option.some.inj h; exact ok_pack_room
  · obtain rfl := Option.some.inj h; exact ok_ref02_groups
  · obtain rfl := Option.some.inj h; exact ok_ref02_copied
  · obtain rfl := Option.some.inj h; exact ok_pack_Reader_works
  · obtain rfl := Option.some.inj h; exact ok_pack_Reader_take
  · obtain rfl := Option.some.inj h; exact ok_pack_Reader_width
  · obtain rfl := Option.some.inj h; exact ok_frame_parted
  · obtain rfl := Option.some.inj h; exact ok_adler_More
  · obtain rfl := Option.some.inj h; exact ok_ref05_More
  · obtain rfl := Option.some.inj h; exact ok_adler_of
  · obtain rfl := Option.some.inj h; exact ok_adler_halves_sum
  · obtain rfl := Option.some.inj h; exact ok_ref05_low
  · obtain rfl := Option.some.inj h; exact ok_ref05_high
  · obtain rfl := Option.some.inj h; exact ok_ref05_of
  · cases h
theorem tab_law02_PackOne : tab n_law02_PackOne = some tf_law02_PackOne := rfl
theorem tab_law02_PackBack : tab n_law02_PackBack = some tf_law02_PackBack := rfl
theorem tab_law10_FrameNext : tab n_law10_FrameNext = some tf_law10_FrameNext := rfl
theorem tab_law10_awake : tab n_law10_awake = some tf_law10_awake := rfl
theorem tab_frame_Seal : tab n_frame_Seal = some tf_frame_Seal := rfl
theorem tab_ref10_Seal : tab n_ref10_Seal = some tf_ref10_Seal := rfl
theorem tab_slices_Equal_byte_byte : tab n_slices_Equal_byte_byte = some tf_slices_Equal_byte_byte := rfl
theorem tab_law02_awake : tab n_law02_awake = some tf_law02_awake := rfl
theorem tab_pack_Num : tab n_pack_Num = some tf_pack_Num := rfl
theorem tab_ref02_Num : tab n_ref02_Num = some tf_ref02_Num := rfl
theorem tab_pack_Text : tab n_pack_Text = some tf_pack_Text := rfl
theorem tab_ref02_Text : tab n_ref02_Text = some tf_ref02_Text := rfl
theorem tab_pack_Yes : tab n_pack_Yes = some tf_pack_Yes := rfl
theorem tab_pack_Size : tab n_pack_Size = some tf_pack_Size := rfl
theorem tab_pack_Open : tab n_pack_Open = some tf_pack_Open := rfl
theorem tab_pack_Reader_Num : tab n_pack_Reader_Num = some tf_pack_Reader_Num := rfl
theorem tab_pack_Reader_Err : tab n_pack_Reader_Err = some tf_pack_Reader_Err := rfl
theorem tab_pack_Reader_Left : tab n_pack_Reader_Left = some tf_pack_Reader_Left := rfl
theorem tab_pack_Reader_Fail : tab n_pack_Reader_Fail = some tf_pack_Reader_Fail := rfl
theorem tab_pack_Reader_Text : tab n_pack_Reader_Text = some tf_pack_Reader_Text := rfl
theorem tab_pack_Reader_Yes : tab n_pack_Reader_Yes = some tf_pack_Reader_Yes := rfl
theorem tab_ref02_Open : tab n_ref02_Open = some tf_ref02_Open := rfl
theorem tab_ref02_Reader_Num : tab n_ref02_Reader_Num = some tf_ref02_Reader_Num := rfl
theorem tab_ref02_Reader_Fail : tab n_ref02_Reader_Fail = some tf_ref02_Reader_Fail := rfl
theorem tab_ref02_Reader_Left : tab n_ref02_Reader_Left = some tf_ref02_Reader_Left := rfl
theorem tab_ref02_Reader_Err : tab n_ref02_Reader_Err = some tf_ref02_Reader_Err := rfl
theorem tab_frame_Next : tab n_frame_Next = some tf_frame_Next := rfl
theorem tab_ref10_Next : tab n_ref10_Next = some tf_ref10_Next := rfl
theorem tab_frame_sealed : tab n_frame_sealed = some tf_frame_sealed := rfl
theorem tab_adler_Sum : tab n_adler_Sum = some tf_adler_Sum := rfl
theorem tab_ref05_Sum : tab n_ref05_Sum = some tf_ref05_Sum := rfl
theorem tab_pack_put : tab n_pack_put = some tf_pack_put := rfl
theorem tab_pack_room : tab n_pack_room = some tf_pack_room := rfl
theorem tab_ref02_groups : tab n_ref02_groups = some tf_ref02_groups := rfl
theorem tab_ref02_copied : tab n_ref02_copied = some tf_ref02_copied := rfl
theorem tab_pack_Reader_works : tab n_pack_Reader_works = some tf_pack_Reader_works := rfl
theorem tab_pack_Reader_take : tab n_pack_Reader_take = some tf_pack_Reader_take := rfl
theorem tab_pack_Reader_width : tab n_pack_Reader_width = some tf_pack_Reader_width := rfl
theorem tab_frame_parted : tab n_frame_parted = some tf_frame_parted := rfl
theorem tab_adler_More : tab n_adler_More = some tf_adler_More := rfl
theorem tab_ref05_More : tab n_ref05_More = some tf_ref05_More := rfl
theorem tab_adler_of : tab n_adler_of = some tf_adler_of := rfl
theorem tab_adler_halves_sum : tab n_adler_halves_sum = some tf_adler_halves_sum := rfl
theorem tab_ref05_low : tab n_ref05_low = some tf_ref05_low := rfl
theorem tab_ref05_high : tab n_ref05_high = some tf_ref05_high := rfl
theorem tab_ref05_of : tab n_ref05_of = some tf_ref05_of := rfl
def ext : Nat → Option CallF := fun f => match f with
  | 17 => some (cloneC false 1 1)
  | _ => none
theorem one_slices_Clone_byte_byte : ExtOne Go.Proofs.Try.prog n_slices_Clone_byte_byte (cloneC false 1 1) := ExtOne.clone (by kernel_rfl)
theorem ext_ord : ExtOrd ext := by
  intro f c h
  unfold ext at h
  split at h
  · obtain rfl := Option.some.inj h; exact one_slices_Clone_byte_byte.ord
  · cases h
theorem ext_snd : ExtSound Go.Proofs.Try.prog ext := by
  intro f c h
  unfold ext at h
  split at h
  · obtain rfl := Option.some.inj h; exact one_slices_Clone_byte_byte.snd
  · cases h
/-- What the program's functions answer. -/
noncomputable abbrev CT : CallF := callT tab ext
end Go.T
