/- The codes of the functions, for the small machine. -/
import Derived.Test.YtmmmogcbmfmabaaOM8
import Derived.Test.YtmmmogcbmfmabaaProg
import Derived.KernelRfl
set_option maxRecDepth 100000
set_option linter.unusedVariables false
namespace Go.T
abbrev n_law19_LedgerBack : Nat := 3
abbrev n_law19_LedgerLives : Nat := 6
abbrev n_law19_LedgerOnce : Nat := 7
abbrev n_law19_LedgerCodes : Nat := 9
abbrev n_law19_few : Nat := 12
abbrev n_ledger_Check : Nat := 13
abbrev n_law19_awake : Nat := 14
abbrev n_ledger_Reserve : Nat := 15
abbrev n_ledger_Same : Nat := 16
abbrev n_ledger_Release : Nat := 17
abbrev n_law19_do : Nat := 25
abbrev n_ref19_Check : Nat := 26
abbrev n_slices_Clone_api_Hold_api_Hold : Nat := 27
abbrev n_ledger_Find : Nat := 28
abbrev n_ref19_Find : Nat := 29
abbrev n_slices_Equal_api_Hold_api_Hold : Nat := 30
abbrev n_pack_Open : Nat := 40
abbrev n_ref02_Open : Nat := 41
abbrev n_ledger_Read : Nat := 42
abbrev n_ref19_Read : Nat := 43
abbrev n_slices_Equal_byte_byte : Nat := 44
abbrev n_ledger_Put : Nat := 45
abbrev n_ref19_Put : Nat := 46
abbrev n_ref19_Same : Nat := 47
abbrev n_pack_Reader_Err : Nat := 48
abbrev n_ref02_Reader_Err : Nat := 49
abbrev n_pack_Reader_Left : Nat := 50
abbrev n_ref02_Reader_Left : Nat := 51
abbrev n_pack_Reader_End : Nat := 52
abbrev n_nums_Within : Nat := 63
abbrev n_ledger_ordered : Nat := 64
abbrev n_ledger_mayHold : Nat := 65
abbrev n_ledger_total : Nat := 66
abbrev n_ledger_fits : Nat := 67
abbrev n_ledger_own : Nat := 68
abbrev n_ledger_at : Nat := 69
abbrev n_ledger_drop : Nat := 70
abbrev n_ref19_Reserve : Nat := 79
abbrev n_ref19_Release : Nat := 80
abbrev n_ledger_Spend : Nat := 81
abbrev n_ref19_Spend : Nat := 82
abbrev n_ledger_Free : Nat := 83
abbrev n_ref19_Free : Nat := 84
abbrev n_ledger_Quota : Nat := 85
abbrev n_ref19_Quota : Nat := 86
abbrev n_ledger_Expire : Nat := 87
abbrev n_ref19_Expire : Nat := 88
abbrev n_ref19_in : Nat := 89
abbrev n_ref19_one : Nat := 90
abbrev n_nums_Sum : Nat := 93
abbrev n_pack_room : Nat := 98
abbrev n_ref02_copied : Nat := 99
abbrev n_pack_Reader_Num : Nat := 100
abbrev n_ledger_hold : Nat := 101
abbrev n_pack_Reader_Fail : Nat := 102
abbrev n_ref02_Reader_Num : Nat := 103
abbrev n_ref02_Reader_Text : Nat := 104
abbrev n_ref02_Reader_Fail : Nat := 105
abbrev n_ledger_put : Nat := 106
abbrev n_pack_Text : Nat := 107
abbrev n_ref02_Num : Nat := 108
abbrev n_ref02_Text : Nat := 109
abbrev n_pack_Reader_works : Nat := 110
abbrev n_pack_Num : Nat := 112
abbrev n_caveat_Name : Nat := 115
abbrev n_nums_Add : Nat := 116
abbrev n_slices_IndexFunc_api_Hold_api_Hold : Nat := 117
abbrev n_ledger_at_1 : Nat := 118
abbrev n_slices_Delete_api_Hold_api_Hold : Nat := 119
abbrev n_ref19_copied : Nat := 124
abbrev n_ref01_Sum : Nat := 125
abbrev n_ref19_with : Nat := 126
abbrev n_ref06_Name : Nat := 127
abbrev n_pack_Reader_take : Nat := 134
abbrev n_pack_Reader_width : Nat := 135
abbrev n_pack_Reader_Text : Nat := 136
abbrev n_pack_put : Nat := 137
abbrev n_ref02_groups : Nat := 138
abbrev n_caveat_letter : Nat := 141
abbrev n_pack_Size : Nat := 144
/-- bailey/baileylaw19.LedgerBack -/
def tf_law19_LedgerBack : TF := ⟨67, [.tmp 4],
  .seq (.reg [⟨some 2, .lbx true (.s 0), none⟩,
    ⟨some 3, .lbx false (.s 1), none⟩,
    ⟨some 4, .mv false (.c (.bool false)), none⟩] [0, 1, 4])
  (.seq (.seq (.reg [⟨some 10, .ldl false true 5 2 (.s 2), none⟩,
    ⟨some 11, .call 0 n_law19_few [(false, (.s 10))], none⟩,
    ⟨some 12, .not (.s 11), none⟩,
    ⟨some 13, .mv false (.s 12), none⟩,
    ⟨some 14, .ldl false true 5 2 (.s 2), (some (13, false))⟩,
    ⟨some 15, .call 0 n_ledger_Check [(false, (.s 14))], (some (13, false))⟩,
    ⟨some 16, .not (.s 15), (some (13, false))⟩,
    ⟨some 17, .pick (.s 13) (.c (.bool true)) (.s 16), none⟩] [10, 11, 12, 13, 14, 15, 16])
  (.cond (.s 17) (.seq (.reg [⟨some 18, .call 2 n_law19_awake [], none⟩,
    ⟨some 4, .mv false (.s 18), none⟩] [])
  (.ret))
  (.skip)))
  (.seq (.reg [⟨some 20, .ldl false true 5 2 (.s 2), none⟩,
    ⟨some 21, .ldl false true 6 3 (.s 3), none⟩,
    ⟨some 22, .call 0 n_ledger_Reserve [(false, (.s 20)), (false, (.s 21))], none⟩,
    ⟨some 19, .mv true (.s 22), none⟩,
    ⟨some 23, .ext true 0 (.s 19), none⟩,
    ⟨some 24, .ext false 1 (.s 19), none⟩,
    ⟨some 25, .ext false 2 (.s 19), none⟩,
    ⟨some 5, .lal [.int .i64 0, .int .i64 0, .int .i64 0, .int .i64 0, .nils], none⟩,
    ⟨none, .stl true 5 5 (.s 5) (.s 23), none⟩,
    ⟨some 6, .mv false (.s 24), none⟩,
    ⟨some 7, .mv false (.s 25), none⟩] [17, 19, 20, 21, 22, 23, 24, 25])
  (.seq (.seq (.reg [⟨some 26, .mv false (.s 7), none⟩,
    ⟨some 27, .ar .neq (.s 26) (.c (.int .i64 0)), none⟩] [7, 26])
  (.cond (.s 27) (.seq (.reg [⟨some 28, .ldl false true 5 5 (.s 5), none⟩,
    ⟨some 29, .ldl false true 5 2 (.s 2), none⟩,
    ⟨some 30, .call 0 n_ledger_Same [(false, (.s 28)), (false, (.s 29))], none⟩,
    ⟨some 31, .mv false (.s 30), none⟩,
    ⟨some 32, .mv false (.s 6), (some (31, true))⟩,
    ⟨some 33, .ar .eql (.s 32) (.c (.int .i64 0)), (some (31, true))⟩,
    ⟨some 34, .pick (.s 31) (.s 33) (.c (.bool false)), none⟩,
    ⟨some 35, .mv false (.s 34), none⟩,
    ⟨some 36, .call 2 n_law19_awake [], (some (35, true))⟩,
    ⟨some 37, .pick (.s 35) (.s 36) (.c (.bool false)), none⟩,
    ⟨some 4, .mv false (.s 37), none⟩] [])
  (.ret))
  (.skip)))
  (.seq (.reg [⟨some 39, .ldl false true 5 5 (.s 5), none⟩,
    ⟨some 40, .mv false (.s 6), none⟩,
    ⟨some 41, .call 0 n_ledger_Release [(false, (.s 39)), (false, (.s 40))], none⟩,
    ⟨some 38, .mv true (.s 41), none⟩,
    ⟨some 42, .ext true 0 (.s 38), none⟩,
    ⟨some 43, .ext false 1 (.s 38), none⟩,
    ⟨some 8, .lal [.int .i64 0, .int .i64 0, .int .i64 0, .int .i64 0, .nils], none⟩,
    ⟨none, .stl true 5 8 (.s 8) (.s 42), none⟩,
    ⟨some 9, .mv false (.s 43), none⟩] [6, 27, 38, 39, 40, 41, 42, 43])
  (.seq (.reg [⟨some 44, .fa 3 (.s 2), none⟩,
    ⟨some 45, .ldl false false 1 2 (.s 44), none⟩,
    ⟨some 46, .fa 3 (.s 8), none⟩,
    ⟨none, .stl false 1 8 (.s 46) (.s 45), none⟩] [44, 45, 46])
  (.seq (.reg [⟨some 47, .mv false (.s 9), none⟩,
    ⟨some 48, .ar .eql (.s 47) (.c (.int .i64 0)), none⟩,
    ⟨some 49, .mv false (.s 48), none⟩,
    ⟨some 50, .fa 2 (.s 5), (some (49, true))⟩,
    ⟨some 51, .ldl false false 1 5 (.s 50), (some (49, true))⟩,
    ⟨some 52, .fa 2 (.s 2), (some (49, true))⟩,
    ⟨some 53, .ldl false false 1 2 (.s 52), (some (49, true))⟩,
    ⟨some 54, .ar .sub (.s 51) (.s 53), (some (49, true))⟩,
    ⟨some 55, .fa 2 (.s 3), (some (49, true))⟩,
    ⟨some 56, .ldl false false 1 3 (.s 55), (some (49, true))⟩,
    ⟨some 57, .ar .eql (.s 54) (.s 56), (some (49, true))⟩,
    ⟨some 58, .pick (.s 49) (.s 57) (.c (.bool false)), none⟩,
    ⟨some 59, .mv false (.s 58), none⟩,
    ⟨some 60, .ldl false true 5 8 (.s 8), (some (59, true))⟩,
    ⟨some 61, .ldl false true 5 2 (.s 2), (some (59, true))⟩,
    ⟨some 62, .call 0 n_ledger_Same [(false, (.s 60)), (false, (.s 61))], (some (59, true))⟩,
    ⟨some 63, .pick (.s 59) (.s 62) (.c (.bool false)), none⟩,
    ⟨some 64, .mv false (.s 63), none⟩,
    ⟨some 65, .call 2 n_law19_awake [], (some (64, true))⟩,
    ⟨some 66, .pick (.s 64) (.s 65) (.c (.bool false)), none⟩,
    ⟨some 4, .mv false (.s 66), none⟩] [])
  (.ret))))))), true⟩
/-- bailey/baileylaw19.LedgerLives -/
def lp_law19_LedgerLives_1 : TC :=
  .seq (.reg [⟨some 21, .ar .lss (.s 20) (.s 19), none⟩] [])
  (.seq (.cond (.s 21) (.skip)
  (.exit 0))
  (.seq (.block 1 (.seq (.reg [⟨some 22, .mv false (.s 20), none⟩,
    ⟨some 23, .ia 9 (.s 18) (.s 20), none⟩,
    ⟨some 24, .ldh false true 9 (.s 23), none⟩,
    ⟨some 9, .lal [.int .i64 0, .int .i64 0, .int .i64 0, .int .i64 0, .int .i64 0, .int .i64 0, .int .i64 0, .int .i64 0, .str ⟨#[]⟩], none⟩,
    ⟨some 8, .mv false (.s 22), none⟩,
    ⟨none, .stl false 9 9 (.s 9) (.s 24), none⟩] [21, 22, 23, 24])
  (.seq (.seq (.reg [⟨some 25, .mv false (.s 8), none⟩,
    ⟨some 26, .ar .geq (.s 25) (.c (.int .i64 60)), none⟩] [8, 25])
  (.cond (.s 26) (.exit 0)
  (.skip)))
  (.seq (.reg [⟨some 10, .mv false (.c (.bool false)), none⟩] [10, 26])
  (.seq (.reg [⟨some 28, .ldl false true 5 6 (.s 6), none⟩,
    ⟨some 29, .ldl false true 5 7 (.s 7), none⟩,
    ⟨some 30, .ldl false true 9 9 (.s 9), none⟩,
    ⟨some 31, .call 0 n_law19_do [(false, (.s 28)), (false, (.s 29)), (false, (.s 30))], none⟩,
    ⟨some 27, .mv true (.s 31), none⟩,
    ⟨some 32, .ext true 0 (.s 27), none⟩,
    ⟨some 33, .ext true 1 (.s 27), none⟩,
    ⟨some 34, .ext false 2 (.s 27), none⟩,
    ⟨none, .stl true 5 6 (.s 6) (.s 32), none⟩,
    ⟨none, .stl true 5 7 (.s 7) (.s 33), none⟩,
    ⟨some 10, .mv false (.s 34), none⟩] [9, 27, 28, 29, 30, 31, 32, 33, 34])
  (.seq (.reg [⟨some 35, .mv false (.s 10), none⟩,
    ⟨some 36, .not (.s 35), none⟩,
    ⟨some 37, .mv false (.s 36), none⟩,
    ⟨some 38, .ldl false true 5 6 (.s 6), (some (37, false))⟩,
    ⟨some 39, .call 0 n_ledger_Check [(false, (.s 38))], (some (37, false))⟩,
    ⟨some 40, .not (.s 39), (some (37, false))⟩,
    ⟨some 41, .pick (.s 37) (.c (.bool true)) (.s 40), none⟩,
    ⟨some 42, .mv false (.s 41), none⟩,
    ⟨some 43, .fa 1 (.s 6), (some (42, false))⟩,
    ⟨some 44, .ldl false false 1 6 (.s 43), (some (42, false))⟩,
    ⟨some 45, .fa 2 (.s 6), (some (42, false))⟩,
    ⟨some 46, .ldl false false 1 6 (.s 45), (some (42, false))⟩,
    ⟨some 47, .ar .add (.s 44) (.s 46), (some (42, false))⟩,
    ⟨some 48, .fa 0 (.s 6), (some (42, false))⟩,
    ⟨some 49, .ldl false false 1 6 (.s 48), (some (42, false))⟩,
    ⟨some 50, .ar .gtr (.s 47) (.s 49), (some (42, false))⟩,
    ⟨some 51, .pick (.s 42) (.c (.bool true)) (.s 50), none⟩] [10, 35, 36, 37, 38, 39, 40, 41, 42, 43, 44, 45, 46, 47, 48, 49, 50])
  (.cond (.s 51) (.seq (.reg [⟨some 4, .mv false (.c (.bool false)), none⟩] [])
  (.ret))
  (.skip))))))))
  (.reg [⟨some 52, .ar .add (.s 20) (.c (.int .i64 1)), none⟩,
    ⟨some 20, .mv false (.s 52), none⟩] [51, 52])))
def jn_law19_LedgerLives_2 : TC :=
  .seq (.reg [⟨some 53, .call 2 n_law19_awake [], none⟩,
    ⟨some 4, .mv false (.s 53), none⟩] [])
  (.ret)
def tf_law19_LedgerLives : TF := ⟨54, [.tmp 4],
  .seq (.reg [⟨some 4, .mv false (.c (.bool false)), none⟩] [4, 8, 9, 10, 20, 21, 22, 23, 24, 25, 26, 27, 28, 29, 30, 31, 32, 33, 34, 35, 36, 37, 38, 39, 40, 41, 42, 43, 44, 45, 46, 47, 48, 49, 50, 51, 52])
  (.seq (.reg [⟨some 11, .mv false (.s 0), none⟩,
    ⟨some 12, .cvi .u64 (.s 11), none⟩,
    ⟨some 13, .ar .rem (.s 12) (.c (.int .u64 1099511627777)), none⟩,
    ⟨some 14, .cvi .i64 (.s 13), none⟩,
    ⟨some 5, .mv false (.s 14), none⟩] [0, 11, 12, 13, 14])
  (.seq (.reg [⟨some 15, .mv false (.s 5), none⟩,
    ⟨some 16, .build [.int .i64 0, .int .i64 0, .int .i64 0, .int .i64 0, .nils] [(0, 1, (.s 15)), (3, 1, (.c (.int .i64 1)))], none⟩,
    ⟨some 6, .lal [.int .i64 0, .int .i64 0, .int .i64 0, .int .i64 0, .nils], none⟩,
    ⟨none, .stl true 5 6 (.s 6) (.s 16), none⟩] [5, 15, 16])
  (.seq (.reg [⟨some 17, .ldl true true 5 6 (.s 6), none⟩,
    ⟨some 7, .lal [.int .i64 0, .int .i64 0, .int .i64 0, .int .i64 0, .nils], none⟩,
    ⟨none, .stl true 5 7 (.s 7) (.s 17), none⟩] [17])
  (.seq (.seq (.reg [⟨some 18, .mv true (.s 1), none⟩,
    ⟨some 19, .len false (.s 18), none⟩,
    ⟨some 20, .mv false (.c (.int .i64 0)), none⟩] [1])
  (.block 0 (.loop lp_law19_LedgerLives_1)))
  (jn_law19_LedgerLives_2))))), true⟩
/-- bailey/baileylaw19.LedgerOnce -/
def tf_law19_LedgerOnce : TF := ⟨78, [.tmp 4],
  .seq (.reg [⟨some 2, .lbx true (.s 0), none⟩,
    ⟨some 3, .lbx false (.s 1), none⟩,
    ⟨some 4, .mv false (.c (.bool false)), none⟩] [0, 1, 4])
  (.seq (.seq (.reg [⟨some 13, .ldl false true 5 2 (.s 2), none⟩,
    ⟨some 14, .call 0 n_law19_few [(false, (.s 13))], none⟩,
    ⟨some 15, .not (.s 14), none⟩,
    ⟨some 16, .mv false (.s 15), none⟩,
    ⟨some 17, .ldl false true 5 2 (.s 2), (some (16, false))⟩,
    ⟨some 18, .call 0 n_ledger_Check [(false, (.s 17))], (some (16, false))⟩,
    ⟨some 19, .ldl false true 5 2 (.s 2), (some (16, false))⟩,
    ⟨some 20, .call 0 n_ref19_Check [(false, (.s 19))], (some (16, false))⟩,
    ⟨some 21, .eqb true (.s 18) (.s 20), (some (16, false))⟩,
    ⟨some 22, .pick (.s 16) (.c (.bool true)) (.s 21), none⟩] [13, 14, 15, 16, 17, 18, 19, 20, 21])
  (.cond (.s 22) (.seq (.reg [⟨some 23, .ldl false true 5 2 (.s 2), none⟩,
    ⟨some 24, .call 0 n_law19_few [(false, (.s 23))], none⟩,
    ⟨some 25, .not (.s 24), none⟩,
    ⟨some 26, .mv false (.s 25), none⟩,
    ⟨some 27, .call 2 n_law19_awake [], (some (26, true))⟩,
    ⟨some 28, .pick (.s 26) (.s 27) (.c (.bool false)), none⟩,
    ⟨some 4, .mv false (.s 28), none⟩] [])
  (.ret))
  (.skip)))
  (.seq (.seq (.reg [⟨some 29, .ldl false true 5 2 (.s 2), none⟩,
    ⟨some 30, .call 0 n_ref19_Check [(false, (.s 29))], none⟩,
    ⟨some 31, .not (.s 30), none⟩] [22, 29, 30])
  (.cond (.s 31) (.seq (.reg [⟨some 32, .call 2 n_law19_awake [], none⟩,
    ⟨some 4, .mv false (.s 32), none⟩] [])
  (.ret))
  (.skip)))
  (.seq (.reg [⟨some 33, .fa 4 (.s 2), none⟩,
    ⟨some 34, .ldl false false 1 2 (.s 33), none⟩,
    ⟨some 35, .call 3 n_slices_Clone_api_Hold_api_Hold [(false, (.s 34))], none⟩,
    ⟨some 5, .mv true (.s 35), none⟩] [31, 33, 34, 35])
  (.seq (.reg [⟨some 37, .ldl false true 5 2 (.s 2), none⟩,
    ⟨some 38, .ldl false true 5 2 (.s 2), none⟩,
    ⟨some 39, .ldl false true 9 3 (.s 3), none⟩,
    ⟨some 40, .call 0 n_law19_do [(false, (.s 37)), (false, (.s 38)), (false, (.s 39))], none⟩,
    ⟨some 36, .mv true (.s 40), none⟩,
    ⟨some 41, .ext true 0 (.s 36), none⟩,
    ⟨some 42, .ext true 1 (.s 36), none⟩,
    ⟨some 43, .ext false 2 (.s 36), none⟩,
    ⟨some 6, .lal [.int .i64 0, .int .i64 0, .int .i64 0, .int .i64 0, .nils], none⟩,
    ⟨some 7, .lal [.int .i64 0, .int .i64 0, .int .i64 0, .int .i64 0, .nils], none⟩,
    ⟨none, .stl true 5 6 (.s 6) (.s 41), none⟩,
    ⟨none, .stl true 5 7 (.s 7) (.s 42), none⟩,
    ⟨some 8, .mv false (.s 43), none⟩] [6, 7, 36, 37, 38, 39, 40, 41, 42, 43])
  (.seq (.reg [⟨some 45, .ldl false true 5 2 (.s 2), none⟩,
    ⟨some 46, .fa 1 (.s 3), none⟩,
    ⟨some 47, .ldl false false 1 3 (.s 46), none⟩,
    ⟨some 48, .call 0 n_ledger_Find [(false, (.s 45)), (false, (.s 47))], none⟩,
    ⟨some 44, .mv true (.s 48), none⟩,
    ⟨some 49, .ext false 0 (.s 44), none⟩,
    ⟨some 50, .ext false 1 (.s 44), none⟩,
    ⟨some 9, .lal [.int .i64 0, .int .i64 0, .int .i64 0, .int .i64 0, .int .i64 0, .str ⟨#[]⟩], none⟩,
    ⟨none, .stl false 6 9 (.s 9) (.s 49), none⟩,
    ⟨some 10, .mv false (.s 50), none⟩] [44, 45, 46, 47, 48, 49, 50])
  (.seq (.reg [⟨some 52, .ldl false true 5 2 (.s 2), none⟩,
    ⟨some 53, .fa 1 (.s 3), none⟩,
    ⟨some 54, .ldl false false 1 3 (.s 53), none⟩,
    ⟨some 55, .call 0 n_ref19_Find [(false, (.s 52)), (false, (.s 54))], none⟩,
    ⟨some 51, .mv true (.s 55), none⟩,
    ⟨some 56, .ext false 0 (.s 51), none⟩,
    ⟨some 57, .ext false 1 (.s 51), none⟩,
    ⟨some 11, .lal [.int .i64 0, .int .i64 0, .int .i64 0, .int .i64 0, .int .i64 0, .str ⟨#[]⟩], none⟩,
    ⟨none, .stl false 6 11 (.s 11) (.s 56), none⟩,
    ⟨some 12, .mv false (.s 57), none⟩] [3, 51, 52, 53, 54, 55, 56, 57])
  (.seq (.reg [⟨some 58, .mv false (.s 8), none⟩,
    ⟨some 59, .mv false (.s 58), none⟩,
    ⟨some 60, .ldl false true 6 9 (.s 9), (some (59, true))⟩,
    ⟨some 61, .ldl false true 6 11 (.s 11), (some (59, true))⟩,
    ⟨some 62, .eqs false [(0, 0), (1, 0), (2, 0), (3, 0), (4, 0), (5, 2)] (.s 60) (.s 61), (some (59, true))⟩,
    ⟨some 63, .pick (.s 59) (.s 62) (.c (.bool false)), none⟩,
    ⟨some 64, .mv false (.s 63), none⟩,
    ⟨some 65, .mv false (.s 10), (some (64, true))⟩,
    ⟨some 66, .mv false (.s 12), (some (64, true))⟩,
    ⟨some 67, .eqb false (.s 65) (.s 66), (some (64, true))⟩,
    ⟨some 68, .pick (.s 64) (.s 67) (.c (.bool false)), none⟩,
    ⟨some 69, .mv false (.s 68), none⟩,
    ⟨some 70, .fa 4 (.s 2), (some (69, true))⟩,
    ⟨some 71, .ldl false false 1 2 (.s 70), (some (69, true))⟩,
    ⟨some 72, .mv false (.s 5), (some (69, true))⟩,
    ⟨some 73, .call 0 n_slices_Equal_api_Hold_api_Hold [(false, (.s 71)), (false, (.s 72))], (some (69, true))⟩,
    ⟨some 74, .pick (.s 69) (.s 73) (.c (.bool false)), none⟩,
    ⟨some 75, .mv false (.s 74), none⟩,
    ⟨some 76, .call 2 n_law19_awake [], (some (75, true))⟩,
    ⟨some 77, .pick (.s 75) (.s 76) (.c (.bool false)), none⟩,
    ⟨some 4, .mv false (.s 77), none⟩] [])
  (.ret)))))))), true⟩
/-- bailey/baileylaw19.LedgerCodes -/
def tf_law19_LedgerCodes : TF := ⟨91, [.tmp 6],
  .seq (.reg [⟨some 3, .lbx true (.s 0), none⟩,
    ⟨some 4, .lbx true (.s 1), none⟩,
    ⟨some 6, .mv false (.c (.bool false)), none⟩] [0, 1, 6])
  (.seq (.seq (.reg [⟨some 12, .ldl false true 5 3 (.s 3), none⟩,
    ⟨some 13, .call 0 n_law19_few [(false, (.s 12))], none⟩,
    ⟨some 14, .not (.s 13), none⟩,
    ⟨some 15, .mv false (.s 14), none⟩,
    ⟨some 16, .ldl false true 5 4 (.s 4), (some (15, false))⟩,
    ⟨some 17, .call 0 n_law19_few [(false, (.s 16))], (some (15, false))⟩,
    ⟨some 18, .not (.s 17), (some (15, false))⟩,
    ⟨some 19, .pick (.s 15) (.c (.bool true)) (.s 18), none⟩,
    ⟨some 20, .mv false (.s 19), none⟩,
    ⟨some 21, .mv false (.s 2), (some (20, false))⟩,
    ⟨some 22, .len false (.s 21), (some (20, false))⟩,
    ⟨some 23, .ar .gtr (.s 22) (.c (.int .i64 2000)), (some (20, false))⟩,
    ⟨some 24, .pick (.s 20) (.c (.bool true)) (.s 23), none⟩] [12, 13, 14, 15, 16, 17, 18, 19, 20, 21, 22, 23])
  (.cond (.s 24) (.seq (.reg [⟨some 25, .call 2 n_law19_awake [], none⟩,
    ⟨some 6, .mv false (.s 25), none⟩] [])
  (.ret))
  (.skip)))
  (.seq (.reg [⟨some 26, .mv false (.s 2), none⟩,
    ⟨some 27, .call 0 n_pack_Open [(false, (.s 26))], none⟩,
    ⟨some 28, .mv false (.s 2), none⟩,
    ⟨some 29, .call 0 n_ref02_Open [(false, (.s 28))], none⟩,
    ⟨some 7, .mv false (.s 27), none⟩,
    ⟨some 8, .mv false (.s 29), none⟩] [24, 26, 27, 28, 29])
  (.seq (.reg [⟨some 30, .mv false (.s 7), none⟩,
    ⟨some 31, .call 0 n_ledger_Read [(false, (.s 30))], none⟩,
    ⟨some 32, .mv false (.s 8), none⟩,
    ⟨some 33, .call 0 n_ref19_Read [(false, (.s 32))], none⟩,
    ⟨some 9, .lal [.int .i64 0, .int .i64 0, .int .i64 0, .int .i64 0, .nils], none⟩,
    ⟨some 10, .lal [.int .i64 0, .int .i64 0, .int .i64 0, .int .i64 0, .nils], none⟩,
    ⟨none, .stl true 5 9 (.s 9) (.s 31), none⟩,
    ⟨none, .stl true 5 10 (.s 10) (.s 33), none⟩] [30, 31, 32, 33])
  (.seq (.seq (.reg [⟨some 34, .mv false (.s 2), none⟩,
    ⟨some 35, .ldl false true 5 3 (.s 3), none⟩,
    ⟨some 36, .call 0 n_ledger_Put [(false, (.s 34)), (false, (.s 35))], none⟩,
    ⟨some 37, .mv false (.s 2), none⟩,
    ⟨some 38, .ldl false true 5 3 (.s 3), none⟩,
    ⟨some 39, .call 0 n_ref19_Put [(false, (.s 37)), (false, (.s 38))], none⟩,
    ⟨some 40, .call 0 n_slices_Equal_byte_byte [(false, (.s 36)), (false, (.s 39))], none⟩,
    ⟨some 41, .not (.s 40), none⟩,
    ⟨some 42, .mv false (.s 41), none⟩,
    ⟨some 43, .ldl false true 5 9 (.s 9), (some (42, false))⟩,
    ⟨some 44, .ldl false true 5 10 (.s 10), (some (42, false))⟩,
    ⟨some 45, .call 0 n_ref19_Same [(false, (.s 43)), (false, (.s 44))], (some (42, false))⟩,
    ⟨some 46, .not (.s 45), (some (42, false))⟩,
    ⟨some 47, .pick (.s 42) (.c (.bool true)) (.s 46), none⟩,
    ⟨some 48, .mv false (.s 47), none⟩,
    ⟨some 49, .mv false (.s 7), (some (48, false))⟩,
    ⟨some 50, .call 0 n_pack_Reader_Err [(false, (.s 49))], (some (48, false))⟩,
    ⟨some 51, .mv false (.s 8), (some (48, false))⟩,
    ⟨some 52, .call 0 n_ref02_Reader_Err [(false, (.s 51))], (some (48, false))⟩,
    ⟨some 53, .ar .neq (.s 50) (.s 52), (some (48, false))⟩,
    ⟨some 54, .pick (.s 48) (.c (.bool true)) (.s 53), none⟩,
    ⟨some 55, .mv false (.s 54), none⟩,
    ⟨some 56, .mv false (.s 7), (some (55, false))⟩,
    ⟨some 57, .call 0 n_pack_Reader_Left [(false, (.s 56))], (some (55, false))⟩,
    ⟨some 58, .mv false (.s 8), (some (55, false))⟩,
    ⟨some 59, .call 0 n_ref02_Reader_Left [(false, (.s 58))], (some (55, false))⟩,
    ⟨some 60, .ar .neq (.s 57) (.s 59), (some (55, false))⟩,
    ⟨some 61, .pick (.s 55) (.c (.bool true)) (.s 60), none⟩,
    ⟨some 62, .mv false (.s 61), none⟩,
    ⟨some 63, .ldl false true 5 3 (.s 3), (some (62, false))⟩,
    ⟨some 64, .ldl false true 5 4 (.s 4), (some (62, false))⟩,
    ⟨some 65, .call 0 n_ledger_Same [(false, (.s 63)), (false, (.s 64))], (some (62, false))⟩,
    ⟨some 66, .ldl false true 5 3 (.s 3), (some (62, false))⟩,
    ⟨some 67, .ldl false true 5 4 (.s 4), (some (62, false))⟩,
    ⟨some 68, .call 0 n_ref19_Same [(false, (.s 66)), (false, (.s 67))], (some (62, false))⟩,
    ⟨some 69, .eqb true (.s 65) (.s 68), (some (62, false))⟩,
    ⟨some 70, .pick (.s 62) (.c (.bool true)) (.s 69), none⟩] [2, 4, 7, 8, 9, 10, 34, 35, 36, 37, 38, 39, 40, 41, 42, 43, 44, 45, 46, 47, 48, 49, 50, 51, 52, 53, 54, 55, 56, 57, 58, 59, 60, 61, 62, 63, 64, 65, 66, 67, 68, 69])
  (.cond (.s 70) (.seq (.reg [⟨some 6, .mv false (.c (.bool false)), none⟩] [])
  (.ret))
  (.skip)))
  (.seq (.reg [⟨some 71, .ldl false true 5 3 (.s 3), none⟩,
    ⟨some 72, .call 0 n_ledger_Put [(false, (.c (.nils))), (false, (.s 71))], none⟩,
    ⟨some 73, .call 0 n_pack_Open [(false, (.s 72))], none⟩,
    ⟨some 11, .mv false (.s 73), none⟩] [70, 71, 72, 73])
  (.seq (.reg [⟨some 74, .ldl false true 5 3 (.s 3), none⟩,
    ⟨some 75, .call 0 n_ledger_Check [(false, (.s 74))], none⟩,
    ⟨some 76, .not (.s 75), none⟩,
    ⟨some 77, .mv false (.s 76), none⟩,
    ⟨some 78, .mv false (.s 11), (some (77, false))⟩,
    ⟨some 79, .call 0 n_ledger_Read [(false, (.s 78))], (some (77, false))⟩,
    ⟨some 80, .ldl false true 5 3 (.s 3), (some (77, false))⟩,
    ⟨some 81, .call 0 n_ledger_Same [(false, (.s 79)), (false, (.s 80))], (some (77, false))⟩,
    ⟨some 82, .mv false (.s 81), (some (77, false))⟩,
    ⟨some 83, .mv false (.s 11), (some (82, true))⟩,
    ⟨some 84, .call 0 n_pack_Reader_End [(false, (.s 83))], (some (82, true))⟩,
    ⟨some 85, .ar .eql (.s 84) (.c (.int .i64 0)), (some (82, true))⟩,
    ⟨some 86, .pick (.s 82) (.s 85) (.c (.bool false)), (some (77, false))⟩,
    ⟨some 87, .pick (.s 77) (.c (.bool true)) (.s 86), none⟩,
    ⟨some 88, .mv false (.s 87), none⟩,
    ⟨some 89, .call 2 n_law19_awake [], (some (88, true))⟩,
    ⟨some 90, .pick (.s 88) (.s 89) (.c (.bool false)), none⟩,
    ⟨some 6, .mv false (.s 90), none⟩] [])
  (.ret))))))), true⟩
/-- bailey/baileylaw19.few -/
def tf_law19_few : TF := ⟨7, [.tmp 2],
  .seq (.reg [⟨some 1, .lbx true (.s 0), none⟩,
    ⟨some 2, .mv false (.c (.bool false)), none⟩] [0, 2])
  (.seq (.reg [⟨some 3, .fa 4 (.s 1), none⟩,
    ⟨some 4, .ldl false false 1 1 (.s 3), none⟩,
    ⟨some 5, .len false (.s 4), none⟩,
    ⟨some 6, .ar .leq (.s 5) (.c (.int .i64 30)), none⟩,
    ⟨some 2, .mv false (.s 6), none⟩] [])
  (.ret)), true⟩
/-- bailey/ledger.Check -/
def lp_ledger_Check_1 : TC :=
  .seq (.reg [⟨some 18, .ar .lss (.s 17) (.s 16), none⟩] [])
  (.seq (.cond (.s 18) (.skip)
  (.exit 0))
  (.seq (.block 1 (.seq (.reg [⟨some 19, .ia 1 (.s 15) (.s 17), none⟩,
    ⟨some 20, .ldh false false 1 (.s 19), none⟩,
    ⟨some 4, .mv false (.s 20), none⟩] [18, 19, 20])
  (.seq (.reg [⟨some 21, .mv false (.s 4), none⟩,
    ⟨some 22, .call 0 n_nums_Within [(false, (.s 21)), (false, (.c (.int .i64 0))), (false, (.c (.int .i64 1099511627776)))], none⟩,
    ⟨some 23, .not (.s 22), none⟩] [4, 21, 22])
  (.cond (.s 23) (.seq (.reg [⟨some 2, .mv false (.c (.bool false)), none⟩] [])
  (.ret))
  (.skip)))))
  (.reg [⟨some 24, .ar .add (.s 17) (.c (.int .i64 1)), none⟩,
    ⟨some 17, .mv false (.s 24), none⟩] [23, 24])))
def lp_ledger_Check_2 : TC :=
  .seq (.reg [⟨some 47, .ar .lss (.s 46) (.s 45), none⟩] [])
  (.seq (.cond (.s 47) (.skip)
  (.exit 2))
  (.seq (.block 3 (.seq (.reg [⟨some 48, .ia 6 (.s 44) (.s 46), none⟩,
    ⟨some 49, .ldh false true 6 (.s 48), none⟩,
    ⟨some 6, .lal [.int .i64 0, .int .i64 0, .int .i64 0, .int .i64 0, .int .i64 0, .str ⟨#[]⟩], none⟩,
    ⟨none, .stl false 6 6 (.s 6) (.s 49), none⟩] [47, 48, 49])
  (.seq (.reg [⟨some 50, .ldl false true 6 6 (.s 6), none⟩,
    ⟨some 51, .call 0 n_ledger_mayHold [(false, (.s 50))], none⟩,
    ⟨some 52, .not (.s 51), none⟩] [6, 50, 51])
  (.cond (.s 52) (.seq (.reg [⟨some 2, .mv false (.c (.bool false)), none⟩] [])
  (.ret))
  (.skip)))))
  (.reg [⟨some 53, .ar .add (.s 46) (.c (.int .i64 1)), none⟩,
    ⟨some 46, .mv false (.s 53), none⟩] [52, 53])))
def tf_ledger_Check : TF := ⟨77, [.tmp 2],
  .seq (.reg [⟨some 1, .lbx true (.s 0), none⟩,
    ⟨some 2, .mv false (.c (.bool false)), none⟩] [0, 2, 4, 6, 17, 18, 19, 20, 21, 22, 23, 24, 46, 47, 48, 49, 50, 51, 52, 53])
  (.seq (.seq (.reg [⟨some 9, .fa 0 (.s 1), none⟩,
    ⟨some 10, .ldl false false 1 1 (.s 9), none⟩,
    ⟨some 11, .fa 1 (.s 1), none⟩,
    ⟨some 12, .ldl false false 1 1 (.s 11), none⟩,
    ⟨some 13, .fa 2 (.s 1), none⟩,
    ⟨some 14, .ldl false false 1 1 (.s 13), none⟩,
    ⟨some 15, .bsl false 1 3 [.int .i64 0] [(0, (.s 10)), (1, (.s 12)), (2, (.s 14))], none⟩,
    ⟨some 16, .len false (.s 15), none⟩,
    ⟨some 17, .mv false (.c (.int .i64 0)), none⟩] [9, 10, 11, 12, 13, 14])
  (.block 0 (.loop lp_ledger_Check_1)))
  (.seq (.seq (.reg [⟨some 25, .fa 3 (.s 1), none⟩,
    ⟨some 26, .ldl false false 1 1 (.s 25), none⟩,
    ⟨some 27, .call 0 n_nums_Within [(false, (.s 26)), (false, (.c (.int .i64 1))), (false, (.c (.int .i64 2147483648)))], none⟩,
    ⟨some 28, .not (.s 27), none⟩,
    ⟨some 29, .mv false (.s 28), none⟩,
    ⟨some 30, .fa 4 (.s 1), (some (29, false))⟩,
    ⟨some 31, .ldl false false 1 1 (.s 30), (some (29, false))⟩,
    ⟨some 32, .len false (.s 31), (some (29, false))⟩,
    ⟨some 33, .ar .gtr (.s 32) (.c (.int .i64 8)), (some (29, false))⟩,
    ⟨some 34, .pick (.s 29) (.c (.bool true)) (.s 33), none⟩,
    ⟨some 35, .mv false (.s 34), none⟩,
    ⟨some 36, .fa 4 (.s 1), (some (35, false))⟩,
    ⟨some 37, .ldl false false 1 1 (.s 36), (some (35, false))⟩,
    ⟨some 38, .fa 3 (.s 1), (some (35, false))⟩,
    ⟨some 39, .ldl false false 1 1 (.s 38), (some (35, false))⟩,
    ⟨some 40, .call 0 n_ledger_ordered [(false, (.s 37)), (false, (.s 39))], (some (35, false))⟩,
    ⟨some 41, .not (.s 40), (some (35, false))⟩,
    ⟨some 42, .pick (.s 35) (.c (.bool true)) (.s 41), none⟩] [15, 16, 17, 18, 25, 26, 27, 28, 29, 30, 31, 32, 33, 34, 35, 36, 37, 38, 39, 40, 41])
  (.cond (.s 42) (.seq (.reg [⟨some 2, .mv false (.c (.bool false)), none⟩] [])
  (.ret))
  (.skip)))
  (.seq (.seq (.reg [⟨some 43, .fa 4 (.s 1), none⟩,
    ⟨some 44, .ldl false false 1 1 (.s 43), none⟩,
    ⟨some 45, .len false (.s 44), none⟩,
    ⟨some 46, .mv false (.c (.int .i64 0)), none⟩] [42, 43])
  (.block 2 (.loop lp_ledger_Check_2)))
  (.seq (.reg [⟨some 55, .fa 4 (.s 1), none⟩,
    ⟨some 56, .ldl false false 1 1 (.s 55), none⟩,
    ⟨some 57, .call 0 n_ledger_total [(false, (.s 56))], none⟩,
    ⟨some 54, .mv true (.s 57), none⟩,
    ⟨some 58, .ext false 0 (.s 54), none⟩,
    ⟨some 59, .ext false 1 (.s 54), none⟩,
    ⟨some 7, .mv false (.s 58), none⟩,
    ⟨some 8, .mv false (.s 59), none⟩] [44, 45, 46, 47, 54, 55, 56, 57, 58, 59])
  (.seq (.reg [⟨some 60, .mv false (.s 8), none⟩,
    ⟨some 61, .mv false (.s 60), none⟩,
    ⟨some 62, .mv false (.s 7), (some (61, true))⟩,
    ⟨some 63, .fa 2 (.s 1), (some (61, true))⟩,
    ⟨some 64, .ldl false false 1 1 (.s 63), (some (61, true))⟩,
    ⟨some 65, .ar .eql (.s 62) (.s 64), (some (61, true))⟩,
    ⟨some 66, .pick (.s 61) (.s 65) (.c (.bool false)), none⟩,
    ⟨some 67, .mv false (.s 66), none⟩,
    ⟨some 68, .fa 0 (.s 1), (some (67, true))⟩,
    ⟨some 69, .ldl false false 1 1 (.s 68), (some (67, true))⟩,
    ⟨some 70, .fa 1 (.s 1), (some (67, true))⟩,
    ⟨some 71, .ldl false false 1 1 (.s 70), (some (67, true))⟩,
    ⟨some 72, .fa 2 (.s 1), (some (67, true))⟩,
    ⟨some 73, .ldl false false 1 1 (.s 72), (some (67, true))⟩,
    ⟨some 74, .bsl false 1 2 [.int .i64 0] [(0, (.s 71)), (1, (.s 73))], (some (67, true))⟩,
    ⟨some 75, .call 0 n_ledger_fits [(false, (.s 69)), (false, (.s 74))], (some (67, true))⟩,
    ⟨some 76, .pick (.s 67) (.s 75) (.c (.bool false)), none⟩,
    ⟨some 2, .mv false (.s 76), none⟩] [])
  (.ret)))))), true⟩
/-- bailey/baileylaw19.awake -/
def tf_law19_awake : TF := ⟨35, [.tmp 0],
  .seq (.reg [⟨some 0, .mv false (.c (.bool false)), none⟩] [])
  (.seq (.reg [⟨some 8, .build [.int .i64 0, .int .i64 0, .int .i64 0, .int .i64 0, .int .i64 0, .str ⟨#[]⟩] [(0, 1, (.c (.int .i64 1))), (2, 1, (.c (.int .i64 5))), (5, 1, (.c (.str ⟨#[97]⟩)))], none⟩,
    ⟨some 9, .bsl true 6 1 [.int .i64 0, .int .i64 0, .int .i64 0, .int .i64 0, .int .i64 0, .str ⟨#[]⟩] [(0, (.s 8))], none⟩,
    ⟨some 10, .build [.int .i64 0, .int .i64 0, .int .i64 0, .int .i64 0, .nils] [(0, 1, (.c (.int .i64 10))), (1, 1, (.c (.int .i64 4))), (2, 1, (.c (.int .i64 5))), (3, 1, (.c (.int .i64 2))), (4, 1, (.s 9))], none⟩,
    ⟨some 1, .lal [.int .i64 0, .int .i64 0, .int .i64 0, .int .i64 0, .nils], none⟩,
    ⟨none, .stl true 5 1 (.s 1) (.s 10), none⟩] [0, 8, 9, 10])
  (.seq (.reg [⟨some 12, .ldl false true 5 1 (.s 1), none⟩,
    ⟨some 13, .build [.int .i64 0, .int .i64 0, .int .i64 0, .int .i64 0, .int .i64 0, .str ⟨#[]⟩] [(2, 1, (.c (.int .i64 2))), (5, 1, (.c (.str ⟨#[97]⟩)))], none⟩,
    ⟨some 14, .call 0 n_ledger_Reserve [(false, (.s 12)), (false, (.s 13))], none⟩,
    ⟨some 11, .mv true (.s 14), none⟩,
    ⟨some 15, .ext true 0 (.s 11), none⟩,
    ⟨some 16, .ext false 1 (.s 11), none⟩,
    ⟨some 17, .ext false 2 (.s 11), none⟩,
    ⟨some 2, .lal [.int .i64 0, .int .i64 0, .int .i64 0, .int .i64 0, .nils], none⟩,
    ⟨none, .stl true 5 2 (.s 2) (.s 15), none⟩,
    ⟨some 3, .mv false (.s 16), none⟩,
    ⟨some 4, .mv false (.s 17), none⟩] [2, 3, 11, 12, 13, 14, 15, 16, 17])
  (.seq (.reg [⟨some 19, .ldl false true 5 1 (.s 1), none⟩,
    ⟨some 20, .build [.int .i64 0, .int .i64 0, .int .i64 0, .int .i64 0, .int .i64 0, .str ⟨#[]⟩] [(2, 1, (.c (.int .i64 1))), (5, 1, (.c (.str ⟨#[97]⟩)))], none⟩,
    ⟨some 21, .call 0 n_ledger_Reserve [(false, (.s 19)), (false, (.s 20))], none⟩,
    ⟨some 18, .mv true (.s 21), none⟩,
    ⟨some 22, .ext true 0 (.s 18), none⟩,
    ⟨some 23, .ext false 1 (.s 18), none⟩,
    ⟨some 24, .ext false 2 (.s 18), none⟩,
    ⟨some 5, .lal [.int .i64 0, .int .i64 0, .int .i64 0, .int .i64 0, .nils], none⟩,
    ⟨none, .stl true 5 5 (.s 5) (.s 22), none⟩,
    ⟨some 6, .mv false (.s 23), none⟩,
    ⟨some 7, .mv false (.s 24), none⟩] [1, 5, 18, 19, 20, 21, 22, 23, 24])
  (.seq (.reg [⟨some 25, .mv false (.s 4), none⟩,
    ⟨some 26, .ar .eql (.s 25) (.c (.int .i64 14)), none⟩,
    ⟨some 27, .mv false (.s 26), none⟩,
    ⟨some 28, .mv false (.s 7), (some (27, true))⟩,
    ⟨some 29, .ar .eql (.s 28) (.c (.int .i64 0)), (some (27, true))⟩,
    ⟨some 30, .pick (.s 27) (.s 29) (.c (.bool false)), none⟩,
    ⟨some 31, .mv false (.s 30), none⟩,
    ⟨some 32, .mv false (.s 6), (some (31, true))⟩,
    ⟨some 33, .ar .eql (.s 32) (.c (.int .i64 2)), (some (31, true))⟩,
    ⟨some 34, .pick (.s 31) (.s 33) (.c (.bool false)), none⟩,
    ⟨some 0, .mv false (.s 34), none⟩] [])
  (.ret))))), true⟩
/-- bailey/ledger.Reserve -/
def jn_ledger_Reserve_1 : TC :=
  .cond (.s 17) (.seq (.reg [⟨some 25, .ldl true true 5 2 (.s 2), none⟩,
    ⟨none, .stl true 5 4 (.s 4) (.s 25), none⟩,
    ⟨some 5, .mv false (.c (.int .i64 0)), none⟩,
    ⟨some 6, .mv false (.c (.int .i64 7)), none⟩] [])
  (.ret))
  (.seq (.reg [⟨some 27, .fa 0 (.s 2), none⟩,
    ⟨some 28, .ldl false false 1 2 (.s 27), none⟩,
    ⟨some 29, .fa 1 (.s 2), none⟩,
    ⟨some 30, .ldl false false 1 2 (.s 29), none⟩,
    ⟨some 31, .fa 2 (.s 2), none⟩,
    ⟨some 32, .ldl false false 1 2 (.s 31), none⟩,
    ⟨some 33, .fa 2 (.s 3), none⟩,
    ⟨some 34, .ldl false false 1 3 (.s 33), none⟩,
    ⟨some 35, .bsl false 1 3 [.int .i64 0] [(0, (.s 30)), (1, (.s 32)), (2, (.s 34))], none⟩,
    ⟨some 36, .call 0 n_ledger_fits [(false, (.s 28)), (false, (.s 35))], none⟩,
    ⟨some 37, .not (.s 36), none⟩,
    ⟨some 26, .mv false (.s 37), none⟩] [17, 27, 28, 29, 30, 31, 32, 33, 34, 35, 36, 37])
  (.cond (.s 26) (.seq (.reg [⟨some 38, .ldl true true 5 2 (.s 2), none⟩,
    ⟨none, .stl true 5 4 (.s 4) (.s 38), none⟩,
    ⟨some 5, .mv false (.c (.int .i64 0)), none⟩,
    ⟨some 6, .mv false (.c (.int .i64 14)), none⟩] [])
  (.ret))
  (.skip)))
def tf_ledger_Reserve : TF := ⟨58, [.cell 4 true 5, .tmp 5, .tmp 6],
  .seq (.reg [⟨some 2, .lbx true (.s 0), none⟩,
    ⟨some 3, .lbx false (.s 1), none⟩,
    ⟨some 4, .lal [.int .i64 0, .int .i64 0, .int .i64 0, .int .i64 0, .nils], none⟩,
    ⟨some 5, .mv false (.c (.int .i64 0)), none⟩,
    ⟨some 6, .mv false (.c (.int .i64 0)), none⟩] [0, 1, 5, 6])
  (.seq (.reg [⟨some 7, .ldl false true 5 2 (.s 2), none⟩,
    ⟨some 8, .call 3 n_ledger_own [(false, (.s 7))], none⟩,
    ⟨none, .stl true 5 2 (.s 2) (.s 8), none⟩] [7, 8])
  (.seq (.reg [⟨some 9, .fa 3 (.s 2), none⟩,
    ⟨some 10, .ldl false false 1 2 (.s 9), none⟩,
    ⟨some 11, .fa 0 (.s 3), none⟩,
    ⟨none, .stl false 1 3 (.s 11) (.s 10), none⟩] [9, 10, 11])
  (.seq (.block 0 (.seq (.reg [⟨some 13, .ldl false true 6 3 (.s 3), none⟩,
    ⟨some 14, .call 0 n_ledger_mayHold [(false, (.s 13))], none⟩,
    ⟨some 15, .not (.s 14), none⟩,
    ⟨some 12, .mv false (.s 15), none⟩] [13, 14, 15])
  (.cond (.s 12) (.seq (.reg [⟨some 16, .ldl true true 5 2 (.s 2), none⟩,
    ⟨none, .stl true 5 4 (.s 4) (.s 16), none⟩,
    ⟨some 5, .mv false (.c (.int .i64 0)), none⟩,
    ⟨some 6, .mv false (.c (.int .i64 1)), none⟩] [])
  (.ret))
  (.seq (.seq (.reg [⟨some 18, .fa 4 (.s 2), none⟩,
    ⟨some 19, .ldl false false 1 2 (.s 18), none⟩,
    ⟨some 20, .len false (.s 19), none⟩,
    ⟨some 21, .ar .geq (.s 20) (.c (.int .i64 8)), none⟩,
    ⟨some 17, .mv false (.s 21), none⟩] [12, 18, 19, 20, 21])
  (.cond (.s 17) (.skip)
  (.reg [⟨some 22, .fa 3 (.s 2), none⟩,
    ⟨some 23, .ldl false false 1 2 (.s 22), none⟩,
    ⟨some 24, .ar .geq (.s 23) (.c (.int .i64 2147483648)), none⟩,
    ⟨some 17, .mv false (.s 24), none⟩] [22, 23, 24])))
  (jn_ledger_Reserve_1)))))
  (.seq (.reg [⟨some 39, .fa 2 (.s 2), none⟩,
    ⟨some 40, .ldl false false 1 2 (.s 39), none⟩,
    ⟨some 41, .fa 2 (.s 3), none⟩,
    ⟨some 42, .ldl false false 1 3 (.s 41), none⟩,
    ⟨some 43, .ar .add (.s 40) (.s 42), none⟩,
    ⟨some 44, .fa 2 (.s 2), none⟩,
    ⟨none, .stl false 1 2 (.s 44) (.s 43), none⟩] [26, 39, 40, 41, 42, 43, 44])
  (.seq (.reg [⟨some 45, .fa 3 (.s 2), none⟩,
    ⟨some 46, .ldl false false 1 2 (.s 45), none⟩,
    ⟨some 47, .ar .add (.s 46) (.c (.int .i64 1)), none⟩,
    ⟨some 48, .fa 3 (.s 2), none⟩,
    ⟨none, .stl false 1 2 (.s 48) (.s 47), none⟩] [45, 46, 47, 48])
  (.seq (.reg [⟨some 49, .fa 4 (.s 2), none⟩,
    ⟨some 50, .ldl true false 1 2 (.s 49), none⟩,
    ⟨some 51, .ldl false true 6 3 (.s 3), none⟩,
    ⟨some 52, .bsl true 6 1 [.int .i64 0, .int .i64 0, .int .i64 0, .int .i64 0, .int .i64 0, .str ⟨#[]⟩] [(0, (.s 51))], none⟩,
    ⟨some 53, .app true 6 56 (.s 50) (.s 52), none⟩,
    ⟨some 54, .fa 4 (.s 2), none⟩,
    ⟨none, .stl true 1 2 (.s 54) (.s 53), none⟩] [49, 50, 51, 52, 53, 54])
  (.seq (.reg [⟨some 55, .ldl true true 5 2 (.s 2), none⟩,
    ⟨some 56, .fa 0 (.s 3), none⟩,
    ⟨some 57, .ldl false false 1 3 (.s 56), none⟩,
    ⟨none, .stl true 5 4 (.s 4) (.s 55), none⟩,
    ⟨some 5, .mv false (.s 57), none⟩,
    ⟨some 6, .mv false (.c (.int .i64 0)), none⟩] [])
  (.ret)))))))), true⟩
/-- bailey/ledger.Same -/
def tf_ledger_Same : TF := ⟨38, [.tmp 4],
  .seq (.reg [⟨some 2, .lbx true (.s 0), none⟩,
    ⟨some 3, .lbx true (.s 1), none⟩,
    ⟨some 4, .mv false (.c (.bool false)), none⟩] [0, 1, 4])
  (.seq (.reg [⟨some 5, .fa 0 (.s 2), none⟩,
    ⟨some 6, .ldl false false 1 2 (.s 5), none⟩,
    ⟨some 7, .fa 0 (.s 3), none⟩,
    ⟨some 8, .ldl false false 1 3 (.s 7), none⟩,
    ⟨some 9, .ar .eql (.s 6) (.s 8), none⟩,
    ⟨some 10, .mv false (.s 9), none⟩,
    ⟨some 11, .fa 1 (.s 2), (some (10, true))⟩,
    ⟨some 12, .ldl false false 1 2 (.s 11), (some (10, true))⟩,
    ⟨some 13, .fa 1 (.s 3), (some (10, true))⟩,
    ⟨some 14, .ldl false false 1 3 (.s 13), (some (10, true))⟩,
    ⟨some 15, .ar .eql (.s 12) (.s 14), (some (10, true))⟩,
    ⟨some 16, .pick (.s 10) (.s 15) (.c (.bool false)), none⟩,
    ⟨some 17, .mv false (.s 16), none⟩,
    ⟨some 18, .fa 2 (.s 2), (some (17, true))⟩,
    ⟨some 19, .ldl false false 1 2 (.s 18), (some (17, true))⟩,
    ⟨some 20, .fa 2 (.s 3), (some (17, true))⟩,
    ⟨some 21, .ldl false false 1 3 (.s 20), (some (17, true))⟩,
    ⟨some 22, .ar .eql (.s 19) (.s 21), (some (17, true))⟩,
    ⟨some 23, .pick (.s 17) (.s 22) (.c (.bool false)), none⟩,
    ⟨some 24, .mv false (.s 23), none⟩,
    ⟨some 25, .fa 3 (.s 2), (some (24, true))⟩,
    ⟨some 26, .ldl false false 1 2 (.s 25), (some (24, true))⟩,
    ⟨some 27, .fa 3 (.s 3), (some (24, true))⟩,
    ⟨some 28, .ldl false false 1 3 (.s 27), (some (24, true))⟩,
    ⟨some 29, .ar .eql (.s 26) (.s 28), (some (24, true))⟩,
    ⟨some 30, .pick (.s 24) (.s 29) (.c (.bool false)), none⟩,
    ⟨some 31, .mv false (.s 30), none⟩,
    ⟨some 32, .fa 4 (.s 2), (some (31, true))⟩,
    ⟨some 33, .ldl false false 1 2 (.s 32), (some (31, true))⟩,
    ⟨some 34, .fa 4 (.s 3), (some (31, true))⟩,
    ⟨some 35, .ldl false false 1 3 (.s 34), (some (31, true))⟩,
    ⟨some 36, .call 0 n_slices_Equal_api_Hold_api_Hold [(false, (.s 33)), (false, (.s 35))], (some (31, true))⟩,
    ⟨some 37, .pick (.s 31) (.s 36) (.c (.bool false)), none⟩,
    ⟨some 4, .mv false (.s 37), none⟩] [])
  (.ret)), true⟩
/-- bailey/ledger.Release -/
def tf_ledger_Release : TF := ⟨18, [.cell 4 true 5, .tmp 5],
  .seq (.reg [⟨some 2, .lbx true (.s 0), none⟩,
    ⟨some 4, .lal [.int .i64 0, .int .i64 0, .int .i64 0, .int .i64 0, .nils], none⟩,
    ⟨some 5, .mv false (.c (.int .i64 0)), none⟩] [0, 5])
  (.seq (.reg [⟨some 7, .ldl false true 5 2 (.s 2), none⟩,
    ⟨some 8, .call 0 n_ledger_own [(false, (.s 7))], none⟩,
    ⟨none, .stl true 5 2 (.s 2) (.s 8), none⟩] [7, 8])
  (.seq (.reg [⟨some 9, .ldl false true 5 2 (.s 2), none⟩,
    ⟨some 10, .mv false (.s 1), none⟩,
    ⟨some 11, .call 0 n_ledger_at [(false, (.s 9)), (false, (.s 10))], none⟩,
    ⟨some 6, .mv false (.s 11), none⟩] [1, 9, 10, 11])
  (.seq (.seq (.reg [⟨some 12, .mv false (.s 6), none⟩,
    ⟨some 13, .ar .lss (.s 12) (.c (.int .i64 0)), none⟩] [12])
  (.cond (.s 13) (.seq (.reg [⟨some 14, .ldl true true 5 2 (.s 2), none⟩,
    ⟨none, .stl true 5 4 (.s 4) (.s 14), none⟩,
    ⟨some 5, .mv false (.c (.int .i64 6)), none⟩] [])
  (.ret))
  (.skip)))
  (.seq (.reg [⟨some 15, .ldl false true 5 2 (.s 2), none⟩,
    ⟨some 16, .mv false (.s 6), none⟩,
    ⟨some 17, .call 0 n_ledger_drop [(false, (.s 15)), (false, (.s 16))], none⟩,
    ⟨none, .stl true 5 4 (.s 4) (.s 17), none⟩,
    ⟨some 5, .mv false (.c (.int .i64 0)), none⟩] [])
  (.ret))))), true⟩
/-- bailey/baileylaw19.do -/
def jn_law19_do_1 : TC :=
  .cond (.s 31) (.seq (.reg [⟨some 36, .ldl false true 5 3 (.s 3), none⟩,
    ⟨some 37, .fa 3 (.s 5), none⟩,
    ⟨some 38, .ldl false true 6 5 (.s 37), none⟩,
    ⟨some 39, .call 0 n_ledger_Reserve [(false, (.s 36)), (false, (.s 38))], none⟩,
    ⟨some 35, .mv true (.s 39), none⟩,
    ⟨some 40, .ext true 0 (.s 35), none⟩,
    ⟨some 41, .ext false 1 (.s 35), none⟩,
    ⟨some 42, .ext false 2 (.s 35), none⟩,
    ⟨none, .stl true 5 9 (.s 9) (.s 40), none⟩,
    ⟨some 13, .mv false (.s 41), none⟩,
    ⟨some 11, .mv false (.s 42), none⟩] [3, 12, 14, 16, 31, 35, 36, 37, 38, 39, 40, 41, 42])
  (.reg [⟨some 44, .ldl false true 5 4 (.s 4), none⟩,
    ⟨some 45, .fa 3 (.s 5), none⟩,
    ⟨some 46, .ldl false true 6 5 (.s 45), none⟩,
    ⟨some 47, .call 0 n_ref19_Reserve [(false, (.s 44)), (false, (.s 46))], none⟩,
    ⟨some 43, .mv true (.s 47), none⟩,
    ⟨some 48, .ext true 0 (.s 43), none⟩,
    ⟨some 49, .ext false 1 (.s 43), none⟩,
    ⟨some 50, .ext false 2 (.s 43), none⟩,
    ⟨none, .stl true 5 10 (.s 10) (.s 48), none⟩,
    ⟨some 14, .mv false (.s 49), none⟩,
    ⟨some 12, .mv false (.s 50), none⟩] [4, 5, 43, 44, 45, 46, 47, 48, 49, 50]))
  (.seq (.reg [⟨some 52, .ar .eql (.s 16) (.c (.int .i64 3)), none⟩,
    ⟨some 51, .mv false (.s 52), none⟩] [31, 52])
  (.cond (.s 51) (.seq (.reg [⟨some 54, .ldl false true 5 3 (.s 3), none⟩,
    ⟨some 55, .fa 1 (.s 5), none⟩,
    ⟨some 56, .ldl false false 1 5 (.s 55), none⟩,
    ⟨some 57, .call 0 n_ledger_Release [(false, (.s 54)), (false, (.s 56))], none⟩,
    ⟨some 53, .mv true (.s 57), none⟩,
    ⟨some 58, .ext true 0 (.s 53), none⟩,
    ⟨some 59, .ext false 1 (.s 53), none⟩,
    ⟨none, .stl true 5 9 (.s 9) (.s 58), none⟩,
    ⟨some 11, .mv false (.s 59), none⟩] [3, 12, 16, 51, 53, 54, 55, 56, 57, 58, 59])
  (.reg [⟨some 61, .ldl false true 5 4 (.s 4), none⟩,
    ⟨some 62, .fa 1 (.s 5), none⟩,
    ⟨some 63, .ldl false false 1 5 (.s 62), none⟩,
    ⟨some 64, .call 0 n_ref19_Release [(false, (.s 61)), (false, (.s 63))], none⟩,
    ⟨some 60, .mv true (.s 64), none⟩,
    ⟨some 65, .ext true 0 (.s 60), none⟩,
    ⟨some 66, .ext false 1 (.s 60), none⟩,
    ⟨none, .stl true 5 10 (.s 10) (.s 65), none⟩,
    ⟨some 12, .mv false (.s 66), none⟩] [4, 5, 60, 61, 62, 63, 64, 65, 66]))
  (.seq (.reg [⟨some 68, .ar .eql (.s 16) (.c (.int .i64 4)), none⟩,
    ⟨some 67, .mv false (.s 68), none⟩] [51, 68])
  (.cond (.s 67) (.seq (.reg [⟨some 70, .ldl false true 5 3 (.s 3), none⟩,
    ⟨some 71, .fa 1 (.s 5), none⟩,
    ⟨some 72, .ldl false false 1 5 (.s 71), none⟩,
    ⟨some 73, .fa 2 (.s 5), none⟩,
    ⟨some 74, .ldl false false 1 5 (.s 73), none⟩,
    ⟨some 75, .call 0 n_ledger_Spend [(false, (.s 70)), (false, (.s 72)), (false, (.s 74))], none⟩,
    ⟨some 69, .mv true (.s 75), none⟩,
    ⟨some 76, .ext true 0 (.s 69), none⟩,
    ⟨some 77, .ext false 1 (.s 69), none⟩,
    ⟨none, .stl true 5 9 (.s 9) (.s 76), none⟩,
    ⟨some 11, .mv false (.s 77), none⟩] [3, 12, 16, 67, 69, 70, 71, 72, 73, 74, 75, 76, 77])
  (.reg [⟨some 79, .ldl false true 5 4 (.s 4), none⟩,
    ⟨some 80, .fa 1 (.s 5), none⟩,
    ⟨some 81, .ldl false false 1 5 (.s 80), none⟩,
    ⟨some 82, .fa 2 (.s 5), none⟩,
    ⟨some 83, .ldl false false 1 5 (.s 82), none⟩,
    ⟨some 84, .call 0 n_ref19_Spend [(false, (.s 79)), (false, (.s 81)), (false, (.s 83))], none⟩,
    ⟨some 78, .mv true (.s 84), none⟩,
    ⟨some 85, .ext true 0 (.s 78), none⟩,
    ⟨some 86, .ext false 1 (.s 78), none⟩,
    ⟨none, .stl true 5 10 (.s 10) (.s 85), none⟩,
    ⟨some 12, .mv false (.s 86), none⟩] [4, 5, 78, 79, 80, 81, 82, 83, 84, 85, 86]))
  (.seq (.reg [⟨some 88, .ar .eql (.s 16) (.c (.int .i64 5)), none⟩,
    ⟨some 87, .mv false (.s 88), none⟩] [67, 88])
  (.cond (.s 87) (.seq (.reg [⟨some 90, .ldl false true 5 3 (.s 3), none⟩,
    ⟨some 91, .fa 2 (.s 5), none⟩,
    ⟨some 92, .ldl false false 1 5 (.s 91), none⟩,
    ⟨some 93, .call 0 n_ledger_Free [(false, (.s 90)), (false, (.s 92))], none⟩,
    ⟨some 89, .mv true (.s 93), none⟩,
    ⟨some 94, .ext true 0 (.s 89), none⟩,
    ⟨some 95, .ext false 1 (.s 89), none⟩,
    ⟨none, .stl true 5 9 (.s 9) (.s 94), none⟩,
    ⟨some 11, .mv false (.s 95), none⟩] [3, 12, 16, 87, 89, 90, 91, 92, 93, 94, 95])
  (.reg [⟨some 97, .ldl false true 5 4 (.s 4), none⟩,
    ⟨some 98, .fa 2 (.s 5), none⟩,
    ⟨some 99, .ldl false false 1 5 (.s 98), none⟩,
    ⟨some 100, .call 0 n_ref19_Free [(false, (.s 97)), (false, (.s 99))], none⟩,
    ⟨some 96, .mv true (.s 100), none⟩,
    ⟨some 101, .ext true 0 (.s 96), none⟩,
    ⟨some 102, .ext false 1 (.s 96), none⟩,
    ⟨none, .stl true 5 10 (.s 10) (.s 101), none⟩,
    ⟨some 12, .mv false (.s 102), none⟩] [4, 5, 96, 97, 98, 99, 100, 101, 102]))
  (.seq (.reg [⟨some 104, .ar .eql (.s 16) (.c (.int .i64 6)), none⟩,
    ⟨some 103, .mv false (.s 104), none⟩] [16, 87, 104])
  (.cond (.s 103) (.seq (.reg [⟨some 106, .ldl false true 5 3 (.s 3), none⟩,
    ⟨some 107, .fa 2 (.s 5), none⟩,
    ⟨some 108, .ldl false false 1 5 (.s 107), none⟩,
    ⟨some 109, .call 0 n_ledger_Quota [(false, (.s 106)), (false, (.s 108))], none⟩,
    ⟨some 105, .mv true (.s 109), none⟩,
    ⟨some 110, .ext true 0 (.s 105), none⟩,
    ⟨some 111, .ext false 1 (.s 105), none⟩,
    ⟨none, .stl true 5 9 (.s 9) (.s 110), none⟩,
    ⟨some 11, .mv false (.s 111), none⟩] [3, 12, 103, 105, 106, 107, 108, 109, 110, 111])
  (.reg [⟨some 113, .ldl false true 5 4 (.s 4), none⟩,
    ⟨some 114, .fa 2 (.s 5), none⟩,
    ⟨some 115, .ldl false false 1 5 (.s 114), none⟩,
    ⟨some 116, .call 0 n_ref19_Quota [(false, (.s 113)), (false, (.s 115))], none⟩,
    ⟨some 112, .mv true (.s 116), none⟩,
    ⟨some 117, .ext true 0 (.s 112), none⟩,
    ⟨some 118, .ext false 1 (.s 112), none⟩,
    ⟨none, .stl true 5 10 (.s 10) (.s 117), none⟩,
    ⟨some 12, .mv false (.s 118), none⟩] [4, 5, 112, 113, 114, 115, 116, 117, 118]))
  (.seq (.reg [⟨some 18, .ldl false true 5 3 (.s 3), none⟩,
    ⟨some 19, .fa 2 (.s 5), none⟩,
    ⟨some 20, .ldl false false 1 5 (.s 19), none⟩,
    ⟨some 21, .call 0 n_ledger_Expire [(false, (.s 18)), (false, (.s 20))], none⟩,
    ⟨some 17, .mv true (.s 21), none⟩,
    ⟨some 22, .ext true 0 (.s 17), none⟩,
    ⟨some 23, .ext false 1 (.s 17), none⟩,
    ⟨none, .stl true 5 9 (.s 9) (.s 22), none⟩,
    ⟨some 13, .mv false (.s 23), none⟩] [3, 14, 17, 18, 19, 20, 21, 22, 23, 103])
  (.reg [⟨some 25, .ldl false true 5 4 (.s 4), none⟩,
    ⟨some 26, .fa 2 (.s 5), none⟩,
    ⟨some 27, .ldl false false 1 5 (.s 26), none⟩,
    ⟨some 28, .call 0 n_ref19_Expire [(false, (.s 25)), (false, (.s 27))], none⟩,
    ⟨some 24, .mv true (.s 28), none⟩,
    ⟨some 29, .ext true 0 (.s 24), none⟩,
    ⟨some 30, .ext false 1 (.s 24), none⟩,
    ⟨none, .stl true 5 10 (.s 10) (.s 29), none⟩,
    ⟨some 14, .mv false (.s 30), none⟩] [4, 5, 24, 25, 26, 27, 28, 29, 30]))))))))))
def jn_law19_do_2 : TC :=
  .seq (.reg [⟨some 119, .ldl true true 5 9 (.s 9), none⟩,
    ⟨some 120, .ldl true true 5 10 (.s 10), none⟩,
    ⟨some 121, .mv false (.s 13), none⟩,
    ⟨some 122, .mv false (.s 14), none⟩,
    ⟨some 123, .ar .eql (.s 121) (.s 122), none⟩,
    ⟨some 124, .mv false (.s 123), none⟩,
    ⟨some 125, .mv false (.s 11), (some (124, true))⟩,
    ⟨some 126, .mv false (.s 12), (some (124, true))⟩,
    ⟨some 127, .ar .eql (.s 125) (.s 126), (some (124, true))⟩,
    ⟨some 128, .pick (.s 124) (.s 127) (.c (.bool false)), none⟩,
    ⟨some 129, .mv false (.s 128), none⟩,
    ⟨some 130, .ldl false true 5 9 (.s 9), (some (129, true))⟩,
    ⟨some 131, .ldl false true 5 10 (.s 10), (some (129, true))⟩,
    ⟨some 132, .call 0 n_ref19_Same [(false, (.s 130)), (false, (.s 131))], (some (129, true))⟩,
    ⟨some 133, .pick (.s 129) (.s 132) (.c (.bool false)), none⟩,
    ⟨none, .stl true 5 6 (.s 6) (.s 119), none⟩,
    ⟨none, .stl true 5 7 (.s 7) (.s 120), none⟩,
    ⟨some 8, .mv false (.s 133), none⟩] [])
  (.ret)
def tf_law19_do : TF := ⟨134, [.cell 6 true 5, .cell 7 true 5, .tmp 8],
  .seq (.reg [⟨some 3, .lbx true (.s 0), none⟩,
    ⟨some 4, .lbx true (.s 1), none⟩,
    ⟨some 5, .lbx false (.s 2), none⟩,
    ⟨some 6, .lal [.int .i64 0, .int .i64 0, .int .i64 0, .int .i64 0, .nils], none⟩,
    ⟨some 7, .lal [.int .i64 0, .int .i64 0, .int .i64 0, .int .i64 0, .nils], none⟩,
    ⟨some 8, .mv false (.c (.bool false)), none⟩] [0, 1, 2, 8])
  (.seq (.reg [⟨some 9, .lal [.int .i64 0, .int .i64 0, .int .i64 0, .int .i64 0, .nils], none⟩,
    ⟨some 10, .lal [.int .i64 0, .int .i64 0, .int .i64 0, .int .i64 0, .nils], none⟩] [])
  (.seq (.reg [⟨some 11, .mv false (.c (.int .i64 0)), none⟩,
    ⟨some 12, .mv false (.c (.int .i64 0)), none⟩] [])
  (.seq (.reg [⟨some 13, .mv false (.c (.int .i64 0)), none⟩,
    ⟨some 14, .mv false (.c (.int .i64 0)), none⟩] [])
  (.seq (.seq (.reg [⟨some 15, .fa 0 (.s 5), none⟩,
    ⟨some 16, .ldl false false 1 5 (.s 15), none⟩] [15])
  (.block 0 (.seq (.seq (.reg [⟨some 32, .ar .eql (.s 16) (.c (.int .i64 0)), none⟩,
    ⟨some 31, .mv false (.s 32), none⟩] [32])
  (.cond (.s 31) (.skip)
  (.seq (.reg [⟨some 33, .ar .eql (.s 16) (.c (.int .i64 1)), none⟩,
    ⟨some 31, .mv false (.s 33), none⟩] [33])
  (.cond (.s 31) (.skip)
  (.reg [⟨some 34, .ar .eql (.s 16) (.c (.int .i64 2)), none⟩,
    ⟨some 31, .mv false (.s 34), none⟩] [34])))))
  (jn_law19_do_1))))
  (jn_law19_do_2))))), true⟩
/-- bailey/baileyref19.Check -/
def lp_ref19_Check_1 : TC :=
  .seq (.seq (.reg [⟨some 34, .mv false (.s 4), none⟩,
    ⟨some 35, .fa 4 (.s 1), none⟩,
    ⟨some 36, .ldl false false 1 1 (.s 35), none⟩,
    ⟨some 37, .len false (.s 36), none⟩,
    ⟨some 38, .ar .lss (.s 34) (.s 37), none⟩] [34, 35, 36, 37])
  (.cond (.s 38) (.skip)
  (.exit 0)))
  (.seq (.block 1 (.seq (.reg [⟨some 41, .fa 4 (.s 1), none⟩,
    ⟨some 42, .ldl false false 1 1 (.s 41), none⟩,
    ⟨some 43, .mv false (.s 4), none⟩,
    ⟨some 44, .ia 6 (.s 42) (.s 43), none⟩,
    ⟨some 45, .ldh false true 6 (.s 44), none⟩,
    ⟨some 5, .lal [.int .i64 0, .int .i64 0, .int .i64 0, .int .i64 0, .int .i64 0, .str ⟨#[]⟩], none⟩,
    ⟨none, .stl false 6 5 (.s 5) (.s 45), none⟩] [38, 41, 42, 43, 44, 45])
  (.seq (.seq (.reg [⟨some 46, .ldl false true 6 5 (.s 5), none⟩,
    ⟨some 47, .call 0 n_ref19_one [(false, (.s 46))], none⟩,
    ⟨some 48, .not (.s 47), none⟩,
    ⟨some 49, .mv false (.s 48), none⟩,
    ⟨some 50, .fa 0 (.s 5), (some (49, false))⟩,
    ⟨some 51, .ldl false false 1 5 (.s 50), (some (49, false))⟩,
    ⟨some 52, .fa 3 (.s 1), (some (49, false))⟩,
    ⟨some 53, .ldl false false 1 1 (.s 52), (some (49, false))⟩,
    ⟨some 54, .ar .geq (.s 51) (.s 53), (some (49, false))⟩,
    ⟨some 55, .pick (.s 49) (.c (.bool true)) (.s 54), none⟩,
    ⟨some 56, .mv false (.s 55), none⟩,
    ⟨some 57, .mv false (.s 4), (some (56, false))⟩,
    ⟨some 58, .ar .gtr (.s 57) (.c (.int .i64 0)), (some (56, false))⟩,
    ⟨some 59, .mv false (.s 58), (some (56, false))⟩,
    ⟨some 60, .fa 4 (.s 1), (some (59, true))⟩,
    ⟨some 61, .ldl false false 1 1 (.s 60), (some (59, true))⟩,
    ⟨some 62, .mv false (.s 4), (some (59, true))⟩,
    ⟨some 63, .ar .sub (.s 62) (.c (.int .i64 1)), (some (59, true))⟩,
    ⟨some 64, .ia 6 (.s 61) (.s 63), (some (59, true))⟩,
    ⟨some 65, .fa 0 (.s 64), (some (59, true))⟩,
    ⟨some 66, .ldh false false 1 (.s 65), (some (59, true))⟩,
    ⟨some 67, .fa 0 (.s 5), (some (59, true))⟩,
    ⟨some 68, .ldl false false 1 5 (.s 67), (some (59, true))⟩,
    ⟨some 69, .ar .geq (.s 66) (.s 68), (some (59, true))⟩,
    ⟨some 70, .pick (.s 59) (.s 69) (.c (.bool false)), (some (56, false))⟩,
    ⟨some 71, .pick (.s 56) (.c (.bool true)) (.s 70), none⟩] [46, 47, 48, 49, 50, 51, 52, 53, 54, 55, 56, 57, 58, 59, 60, 61, 62, 63, 64, 65, 66, 67, 68, 69, 70])
  (.cond (.s 71) (.seq (.reg [⟨some 2, .mv false (.c (.bool false)), none⟩] [])
  (.ret))
  (.skip)))
  (.reg [⟨some 72, .mv false (.s 3), none⟩,
    ⟨some 73, .fa 2 (.s 5), none⟩,
    ⟨some 74, .ldl false false 1 5 (.s 73), none⟩,
    ⟨some 75, .ar .add (.s 72) (.s 74), none⟩,
    ⟨some 3, .mv false (.s 75), none⟩] [5, 71, 72, 73, 74, 75]))))
  (.reg [⟨some 39, .mv false (.s 4), none⟩,
    ⟨some 40, .ar .add (.s 39) (.c (.int .i64 1)), none⟩,
    ⟨some 4, .mv false (.s 40), none⟩] [39, 40]))
def tf_ref19_Check : TF := ⟨90, [.tmp 2],
  .seq (.reg [⟨some 1, .lbx true (.s 0), none⟩,
    ⟨some 2, .mv false (.c (.bool false)), none⟩] [0, 2, 3, 4, 5, 34, 35, 36, 37, 38, 39, 40, 41, 42, 43, 44, 45, 46, 47, 48, 49, 50, 51, 52, 53, 54, 55, 56, 57, 58, 59, 60, 61, 62, 63, 64, 65, 66, 67, 68, 69, 70, 71, 72, 73, 74, 75])
  (.seq (.seq (.reg [⟨some 6, .fa 0 (.s 1), none⟩,
    ⟨some 7, .ldl false false 1 1 (.s 6), none⟩,
    ⟨some 8, .call 0 n_ref19_in [(false, (.s 7)), (false, (.c (.int .i64 0))), (false, (.c (.int .i64 1099511627776)))], none⟩,
    ⟨some 9, .not (.s 8), none⟩,
    ⟨some 10, .mv false (.s 9), none⟩,
    ⟨some 11, .fa 1 (.s 1), (some (10, false))⟩,
    ⟨some 12, .ldl false false 1 1 (.s 11), (some (10, false))⟩,
    ⟨some 13, .call 0 n_ref19_in [(false, (.s 12)), (false, (.c (.int .i64 0))), (false, (.c (.int .i64 1099511627776)))], (some (10, false))⟩,
    ⟨some 14, .not (.s 13), (some (10, false))⟩,
    ⟨some 15, .pick (.s 10) (.c (.bool true)) (.s 14), none⟩,
    ⟨some 16, .mv false (.s 15), none⟩,
    ⟨some 17, .fa 2 (.s 1), (some (16, false))⟩,
    ⟨some 18, .ldl false false 1 1 (.s 17), (some (16, false))⟩,
    ⟨some 19, .call 0 n_ref19_in [(false, (.s 18)), (false, (.c (.int .i64 0))), (false, (.c (.int .i64 1099511627776)))], (some (16, false))⟩,
    ⟨some 20, .not (.s 19), (some (16, false))⟩,
    ⟨some 21, .pick (.s 16) (.c (.bool true)) (.s 20), none⟩,
    ⟨some 22, .mv false (.s 21), none⟩,
    ⟨some 23, .fa 3 (.s 1), (some (22, false))⟩,
    ⟨some 24, .ldl false false 1 1 (.s 23), (some (22, false))⟩,
    ⟨some 25, .call 0 n_ref19_in [(false, (.s 24)), (false, (.c (.int .i64 1))), (false, (.c (.int .i64 2147483648)))], (some (22, false))⟩,
    ⟨some 26, .not (.s 25), (some (22, false))⟩,
    ⟨some 27, .pick (.s 22) (.c (.bool true)) (.s 26), none⟩,
    ⟨some 28, .mv false (.s 27), none⟩,
    ⟨some 29, .fa 4 (.s 1), (some (28, false))⟩,
    ⟨some 30, .ldl false false 1 1 (.s 29), (some (28, false))⟩,
    ⟨some 31, .len false (.s 30), (some (28, false))⟩,
    ⟨some 32, .ar .gtr (.s 31) (.c (.int .i64 8)), (some (28, false))⟩,
    ⟨some 33, .pick (.s 28) (.c (.bool true)) (.s 32), none⟩] [6, 7, 8, 9, 10, 11, 12, 13, 14, 15, 16, 17, 18, 19, 20, 21, 22, 23, 24, 25, 26, 27, 28, 29, 30, 31, 32])
  (.cond (.s 33) (.seq (.reg [⟨some 2, .mv false (.c (.bool false)), none⟩] [])
  (.ret))
  (.skip)))
  (.seq (.reg [⟨some 3, .mv false (.c (.int .i64 0)), none⟩] [33])
  (.seq (.seq (.reg [⟨some 4, .mv false (.c (.int .i64 0)), none⟩] [])
  (.block 0 (.loop lp_ref19_Check_1)))
  (.seq (.reg [⟨some 76, .mv false (.s 3), none⟩,
    ⟨some 77, .fa 2 (.s 1), none⟩,
    ⟨some 78, .ldl false false 1 1 (.s 77), none⟩,
    ⟨some 79, .ar .eql (.s 76) (.s 78), none⟩,
    ⟨some 80, .mv false (.s 79), none⟩,
    ⟨some 81, .fa 1 (.s 1), (some (80, true))⟩,
    ⟨some 82, .ldl false false 1 1 (.s 81), (some (80, true))⟩,
    ⟨some 83, .fa 2 (.s 1), (some (80, true))⟩,
    ⟨some 84, .ldl false false 1 1 (.s 83), (some (80, true))⟩,
    ⟨some 85, .ar .add (.s 82) (.s 84), (some (80, true))⟩,
    ⟨some 86, .fa 0 (.s 1), (some (80, true))⟩,
    ⟨some 87, .ldl false false 1 1 (.s 86), (some (80, true))⟩,
    ⟨some 88, .ar .leq (.s 85) (.s 87), (some (80, true))⟩,
    ⟨some 89, .pick (.s 80) (.s 88) (.c (.bool false)), none⟩,
    ⟨some 2, .mv false (.s 89), none⟩] [])
  (.ret))))), true⟩
/-- bailey/ledger.Find -/
def tf_ledger_Find : TF := ⟨18, [.cell 4 true 6, .tmp 5],
  .seq (.reg [⟨some 2, .lbx true (.s 0), none⟩,
    ⟨some 4, .lal [.int .i64 0, .int .i64 0, .int .i64 0, .int .i64 0, .int .i64 0, .str ⟨#[]⟩], none⟩,
    ⟨some 5, .mv false (.c (.bool false)), none⟩] [0, 5])
  (.seq (.reg [⟨some 7, .ldl false true 5 2 (.s 2), none⟩,
    ⟨some 8, .mv false (.s 1), none⟩,
    ⟨some 9, .call 0 n_ledger_at [(false, (.s 7)), (false, (.s 8))], none⟩,
    ⟨some 6, .mv false (.s 9), none⟩] [1, 7, 8, 9])
  (.seq (.seq (.reg [⟨some 10, .mv false (.s 6), none⟩,
    ⟨some 11, .ar .lss (.s 10) (.c (.int .i64 0)), none⟩] [10])
  (.cond (.s 11) (.seq (.reg [⟨some 12, .build [.int .i64 0, .int .i64 0, .int .i64 0, .int .i64 0, .int .i64 0, .str ⟨#[]⟩] [], none⟩,
    ⟨none, .stl false 6 4 (.s 4) (.s 12), none⟩,
    ⟨some 5, .mv false (.c (.bool false)), none⟩] [])
  (.ret))
  (.skip)))
  (.seq (.reg [⟨some 13, .fa 4 (.s 2), none⟩,
    ⟨some 14, .ldl false false 1 2 (.s 13), none⟩,
    ⟨some 15, .mv false (.s 6), none⟩,
    ⟨some 16, .ia 6 (.s 14) (.s 15), none⟩,
    ⟨some 17, .ldh false true 6 (.s 16), none⟩,
    ⟨none, .stl false 6 4 (.s 4) (.s 17), none⟩,
    ⟨some 5, .mv false (.c (.bool true)), none⟩] [])
  (.ret)))), true⟩
/-- bailey/baileyref19.Find -/
def lp_ref19_Find_1 : TC :=
  .seq (.seq (.reg [⟨some 7, .mv false (.s 6), none⟩,
    ⟨some 8, .fa 4 (.s 2), none⟩,
    ⟨some 9, .ldl false false 1 2 (.s 8), none⟩,
    ⟨some 10, .len false (.s 9), none⟩,
    ⟨some 11, .ar .lss (.s 7) (.s 10), none⟩] [7, 8, 9, 10])
  (.cond (.s 11) (.skip)
  (.exit 0)))
  (.seq (.block 1 (.seq (.reg [⟨some 14, .fa 4 (.s 2), none⟩,
    ⟨some 15, .ldl false false 1 2 (.s 14), none⟩,
    ⟨some 16, .mv false (.s 6), none⟩,
    ⟨some 17, .ia 6 (.s 15) (.s 16), none⟩,
    ⟨some 18, .fa 0 (.s 17), none⟩,
    ⟨some 19, .ldh false false 1 (.s 18), none⟩,
    ⟨some 20, .mv false (.s 1), none⟩,
    ⟨some 21, .ar .eql (.s 19) (.s 20), none⟩] [11, 14, 15, 16, 17, 18, 19, 20])
  (.cond (.s 21) (.seq (.reg [⟨some 22, .fa 4 (.s 2), none⟩,
    ⟨some 23, .ldl false false 1 2 (.s 22), none⟩,
    ⟨some 24, .mv false (.s 6), none⟩,
    ⟨some 25, .ia 6 (.s 23) (.s 24), none⟩,
    ⟨some 26, .ldh false true 6 (.s 25), none⟩,
    ⟨none, .stl false 6 4 (.s 4) (.s 26), none⟩,
    ⟨some 5, .mv false (.c (.bool true)), none⟩] [])
  (.ret))
  (.skip))))
  (.reg [⟨some 12, .mv false (.s 6), none⟩,
    ⟨some 13, .ar .add (.s 12) (.c (.int .i64 1)), none⟩,
    ⟨some 6, .mv false (.s 13), none⟩] [12, 13, 21]))
def tf_ref19_Find : TF := ⟨28, [.cell 4 true 6, .tmp 5],
  .seq (.reg [⟨some 2, .lbx true (.s 0), none⟩,
    ⟨some 4, .lal [.int .i64 0, .int .i64 0, .int .i64 0, .int .i64 0, .int .i64 0, .str ⟨#[]⟩], none⟩,
    ⟨some 5, .mv false (.c (.bool false)), none⟩] [0, 5, 6, 7, 8, 9, 10, 11, 12, 13, 14, 15, 16, 17, 18, 19, 20, 21, 22, 23, 24, 25, 26])
  (.seq (.seq (.reg [⟨some 6, .mv false (.c (.int .i64 0)), none⟩] [])
  (.block 0 (.loop lp_ref19_Find_1)))
  (.seq (.reg [⟨some 27, .build [.int .i64 0, .int .i64 0, .int .i64 0, .int .i64 0, .int .i64 0, .str ⟨#[]⟩] [], none⟩,
    ⟨none, .stl false 6 4 (.s 4) (.s 27), none⟩,
    ⟨some 5, .mv false (.c (.bool false)), none⟩] [])
  (.ret))), true⟩
/-- slices.Equal[[]bailey/api.Hold,bailey/api.Hold] -/
def lp_slices_Equal_api_Hold_api_Hold_1 : TC :=
  .seq (.reg [⟨some 14, .ar .lss (.s 13) (.s 12), none⟩] [])
  (.seq (.cond (.s 14) (.skip)
  (.exit 0))
  (.seq (.block 1 (.seq (.reg [⟨some 15, .mv false (.s 13), none⟩,
    ⟨some 5, .mv false (.s 15), none⟩] [14, 15])
  (.seq (.reg [⟨some 16, .mv false (.s 0), none⟩,
    ⟨some 17, .mv false (.s 5), none⟩,
    ⟨some 18, .ia 6 (.s 16) (.s 17), none⟩,
    ⟨some 19, .ldh false true 6 (.s 18), none⟩,
    ⟨some 20, .mv false (.s 1), none⟩,
    ⟨some 21, .mv false (.s 5), none⟩,
    ⟨some 22, .ia 6 (.s 20) (.s 21), none⟩,
    ⟨some 23, .ldh false true 6 (.s 22), none⟩,
    ⟨some 24, .eqs true [(0, 0), (1, 0), (2, 0), (3, 0), (4, 0), (5, 2)] (.s 19) (.s 23), none⟩] [5, 16, 17, 18, 19, 20, 21, 22, 23])
  (.cond (.s 24) (.seq (.reg [⟨some 4, .mv false (.c (.bool false)), none⟩] [])
  (.ret))
  (.skip)))))
  (.reg [⟨some 25, .ar .add (.s 13) (.c (.int .i64 1)), none⟩,
    ⟨some 13, .mv false (.s 25), none⟩] [24, 25])))
def tf_slices_Equal_api_Hold_api_Hold : TF := ⟨26, [.tmp 4],
  .seq (.reg [⟨some 4, .mv false (.c (.bool false)), none⟩] [4, 5, 13, 14, 15, 16, 17, 18, 19, 20, 21, 22, 23, 24, 25])
  (.seq (.seq (.reg [⟨some 6, .mv false (.s 0), none⟩,
    ⟨some 7, .len false (.s 6), none⟩,
    ⟨some 8, .mv false (.s 1), none⟩,
    ⟨some 9, .len false (.s 8), none⟩,
    ⟨some 10, .ar .neq (.s 7) (.s 9), none⟩] [6, 7, 8, 9])
  (.cond (.s 10) (.seq (.reg [⟨some 4, .mv false (.c (.bool false)), none⟩] [])
  (.ret))
  (.skip)))
  (.seq (.seq (.reg [⟨some 11, .mv false (.s 0), none⟩,
    ⟨some 12, .len false (.s 11), none⟩,
    ⟨some 13, .mv false (.c (.int .i64 0)), none⟩] [10, 11])
  (.block 0 (.loop lp_slices_Equal_api_Hold_api_Hold_1)))
  (.seq (.reg [⟨some 4, .mv false (.c (.bool true)), none⟩] [])
  (.ret)))), true⟩
/-- bailey/pack.Open -/
def tf_pack_Open : TF := ⟨7, [.tmp 2],
  .seq (.reg [⟨some 2, .mv false (.c (.nilp)), none⟩] [2])
  (.seq (.reg [⟨some 3, .mv true (.s 0), none⟩,
    ⟨some 4, .call 0 n_pack_room [(false, (.s 3)), (false, (.c (.int .i64 0)))], none⟩,
    ⟨some 5, .build [.nils, .int .i64 0, .bool false] [(0, 1, (.s 4)), (2, 1, (.c (.bool true)))], none⟩,
    ⟨some 6, .hbx true (.s 5), none⟩,
    ⟨some 2, .mv false (.s 6), none⟩] [])
  (.ret)), true⟩
/-- bailey/baileyref02.Open -/
def tf_ref02_Open : TF := ⟨7, [.tmp 2],
  .seq (.reg [⟨some 2, .mv false (.c (.nilp)), none⟩] [2])
  (.seq (.reg [⟨some 3, .mv true (.s 0), none⟩,
    ⟨some 4, .call 0 n_ref02_copied [(false, (.s 3))], none⟩,
    ⟨some 5, .build [.nils, .int .i64 0] [(0, 1, (.s 4))], none⟩,
    ⟨some 6, .hbx true (.s 5), none⟩,
    ⟨some 2, .mv false (.s 6), none⟩] [])
  (.ret)), true⟩
/-- bailey/ledger.Read -/
def lp_ledger_Read_1 : TC :=
  .seq (.seq (.reg [⟨some 16, .mv false (.s 4), none⟩,
    ⟨some 17, .ar .gtr (.s 16) (.c (.int .i64 0)), none⟩] [16])
  (.cond (.s 17) (.skip)
  (.exit 0)))
  (.seq (.block 1 (.reg [⟨some 20, .fa 4 (.s 3), none⟩,
    ⟨some 21, .ldl true false 1 3 (.s 20), none⟩,
    ⟨some 22, .mv false (.s 0), none⟩,
    ⟨some 23, .call 0 n_ledger_hold [(false, (.s 22))], none⟩,
    ⟨some 24, .bsl true 6 1 [.int .i64 0, .int .i64 0, .int .i64 0, .int .i64 0, .int .i64 0, .str ⟨#[]⟩] [(0, (.s 23))], none⟩,
    ⟨some 25, .app true 6 56 (.s 21) (.s 24), none⟩,
    ⟨some 26, .fa 4 (.s 3), none⟩,
    ⟨none, .stl true 1 3 (.s 26) (.s 25), none⟩] [17, 20, 21, 22, 23, 24, 25, 26]))
  (.reg [⟨some 18, .mv false (.s 4), none⟩,
    ⟨some 19, .ar .sub (.s 18) (.c (.int .i64 1)), none⟩,
    ⟨some 4, .mv false (.s 19), none⟩] [18, 19]))
def jn_ledger_Read_2 : TC :=
  .seq (.seq (.reg [⟨some 32, .mv false (.s 0), none⟩,
    ⟨some 33, .call 0 n_pack_Reader_Err [(false, (.s 32))], none⟩,
    ⟨some 34, .ar .neq (.s 33) (.c (.int .i64 0)), none⟩] [0, 29, 32, 33])
  (.cond (.s 34) (.seq (.reg [⟨some 35, .build [.int .i64 0, .int .i64 0, .int .i64 0, .int .i64 0, .nils] [], none⟩,
    ⟨none, .stl true 5 2 (.s 2) (.s 35), none⟩] [])
  (.ret))
  (.skip)))
  (.seq (.reg [⟨some 36, .ldl true true 5 3 (.s 3), none⟩,
    ⟨none, .stl true 5 2 (.s 2) (.s 36), none⟩] [])
  (.ret))
def tf_ledger_Read : TF := ⟨37, [.cell 2 true 5],
  .seq (.reg [⟨some 2, .lal [.int .i64 0, .int .i64 0, .int .i64 0, .int .i64 0, .nils], none⟩] [4, 16, 17, 18, 19, 20, 21, 22, 23, 24, 25, 26])
  (.seq (.reg [⟨some 5, .mv false (.s 0), none⟩,
    ⟨some 6, .call 0 n_pack_Reader_Num [(false, (.s 5)), (false, (.c (.int .i64 1099511627776)))], none⟩,
    ⟨some 7, .mv false (.s 0), none⟩,
    ⟨some 8, .call 0 n_pack_Reader_Num [(false, (.s 7)), (false, (.c (.int .i64 1099511627776)))], none⟩,
    ⟨some 9, .mv false (.s 0), none⟩,
    ⟨some 10, .call 0 n_pack_Reader_Num [(false, (.s 9)), (false, (.c (.int .i64 1099511627776)))], none⟩,
    ⟨some 11, .mv false (.s 0), none⟩,
    ⟨some 12, .call 0 n_pack_Reader_Num [(false, (.s 11)), (false, (.c (.int .i64 2147483648)))], none⟩,
    ⟨some 13, .build [.int .i64 0, .int .i64 0, .int .i64 0, .int .i64 0, .nils] [(0, 1, (.s 6)), (1, 1, (.s 8)), (2, 1, (.s 10)), (3, 1, (.s 12))], none⟩,
    ⟨some 3, .lal [.int .i64 0, .int .i64 0, .int .i64 0, .int .i64 0, .nils], none⟩,
    ⟨none, .stl true 5 3 (.s 3) (.s 13), none⟩] [5, 6, 7, 8, 9, 10, 11, 12, 13])
  (.seq (.seq (.reg [⟨some 14, .mv false (.s 0), none⟩,
    ⟨some 15, .call 0 n_pack_Reader_Num [(false, (.s 14)), (false, (.c (.int .i64 8)))], none⟩,
    ⟨some 4, .mv false (.s 15), none⟩] [14, 15])
  (.block 0 (.loop lp_ledger_Read_1)))
  (.seq (.seq (.reg [⟨some 27, .ldl false true 5 3 (.s 3), none⟩,
    ⟨some 28, .call 0 n_ledger_Check [(false, (.s 27))], none⟩,
    ⟨some 29, .not (.s 28), none⟩] [4, 17, 27, 28])
  (.cond (.s 29) (.reg [⟨some 30, .mv false (.s 0), none⟩,
    ⟨some 31, .call 0 n_pack_Reader_Fail [(false, (.s 30)), (false, (.c (.int .i64 3)))], none⟩] [29, 30, 31])
  (.skip)))
  (jn_ledger_Read_2)))), true⟩
/-- bailey/baileyref19.Read -/
def lp_ref19_Read_1 : TC :=
  .seq (.seq (.reg [⟨some 21, .mv false (.s 5), none⟩,
    ⟨some 22, .mv false (.s 4), none⟩,
    ⟨some 23, .ar .lss (.s 21) (.s 22), none⟩,
    ⟨some 24, .mv false (.s 23), none⟩,
    ⟨some 25, .mv false (.s 0), (some (24, true))⟩,
    ⟨some 26, .call 0 n_ref02_Reader_Err [(false, (.s 25))], (some (24, true))⟩,
    ⟨some 27, .ar .eql (.s 26) (.c (.int .i64 0)), (some (24, true))⟩,
    ⟨some 28, .pick (.s 24) (.s 27) (.c (.bool false)), none⟩] [21, 22, 23, 24, 25, 26, 27])
  (.cond (.s 28) (.skip)
  (.exit 0)))
  (.seq (.block 1 (.seq (.reg [⟨some 31, .mv false (.s 0), none⟩,
    ⟨some 32, .call 0 n_ref02_Reader_Num [(false, (.s 31)), (false, (.c (.int .i64 2147483648)))], none⟩,
    ⟨some 33, .build [.int .i64 0, .int .i64 0, .int .i64 0, .int .i64 0, .int .i64 0, .str ⟨#[]⟩] [(0, 1, (.s 32))], none⟩,
    ⟨some 6, .lal [.int .i64 0, .int .i64 0, .int .i64 0, .int .i64 0, .int .i64 0, .str ⟨#[]⟩], none⟩,
    ⟨none, .stl false 6 6 (.s 6) (.s 33), none⟩] [28, 31, 32, 33])
  (.seq (.reg [⟨some 34, .mv false (.s 0), none⟩,
    ⟨some 35, .call 0 n_ref02_Reader_Num [(false, (.s 34)), (false, (.c (.int .i64 7)))], none⟩,
    ⟨some 36, .fa 1 (.s 6), none⟩,
    ⟨none, .stl false 1 6 (.s 36) (.s 35), none⟩] [34, 35, 36])
  (.seq (.reg [⟨some 37, .mv false (.s 0), none⟩,
    ⟨some 38, .call 0 n_ref02_Reader_Num [(false, (.s 37)), (false, (.c (.int .i64 1099511627776)))], none⟩,
    ⟨some 39, .fa 2 (.s 6), none⟩,
    ⟨none, .stl false 1 6 (.s 39) (.s 38), none⟩] [37, 38, 39])
  (.seq (.reg [⟨some 40, .mv false (.s 0), none⟩,
    ⟨some 41, .call 0 n_ref02_Reader_Num [(false, (.s 40)), (false, (.c (.int .i64 1099511627776)))], none⟩,
    ⟨some 42, .fa 3 (.s 6), none⟩,
    ⟨none, .stl false 1 6 (.s 42) (.s 41), none⟩] [40, 41, 42])
  (.seq (.reg [⟨some 43, .mv false (.s 0), none⟩,
    ⟨some 44, .call 0 n_ref02_Reader_Num [(false, (.s 43)), (false, (.c (.int .i64 1099511627776)))], none⟩,
    ⟨some 45, .fa 4 (.s 6), none⟩,
    ⟨none, .stl false 1 6 (.s 45) (.s 44), none⟩] [43, 44, 45])
  (.seq (.reg [⟨some 46, .mv false (.s 0), none⟩,
    ⟨some 47, .call 0 n_ref02_Reader_Text [(false, (.s 46)), (false, (.c (.int .i64 16)))], none⟩,
    ⟨some 48, .fa 5 (.s 6), none⟩,
    ⟨none, .stl false 1 6 (.s 48) (.s 47), none⟩] [46, 47, 48])
  (.reg [⟨some 49, .fa 4 (.s 3), none⟩,
    ⟨some 50, .ldl true false 1 3 (.s 49), none⟩,
    ⟨some 51, .ldl false true 6 6 (.s 6), none⟩,
    ⟨some 52, .bsl true 6 1 [.int .i64 0, .int .i64 0, .int .i64 0, .int .i64 0, .int .i64 0, .str ⟨#[]⟩] [(0, (.s 51))], none⟩,
    ⟨some 53, .app true 6 56 (.s 50) (.s 52), none⟩,
    ⟨some 54, .fa 4 (.s 3), none⟩,
    ⟨none, .stl true 1 3 (.s 54) (.s 53), none⟩] [6, 49, 50, 51, 52, 53, 54]))))))))
  (.reg [⟨some 29, .mv false (.s 5), none⟩,
    ⟨some 30, .ar .add (.s 29) (.c (.int .i64 1)), none⟩,
    ⟨some 5, .mv false (.s 30), none⟩] [29, 30]))
def jn_ref19_Read_2 : TC :=
  .seq (.seq (.reg [⟨some 65, .mv false (.s 0), none⟩,
    ⟨some 66, .call 0 n_ref02_Reader_Err [(false, (.s 65))], none⟩,
    ⟨some 67, .ar .neq (.s 66) (.c (.int .i64 0)), none⟩] [0, 62, 65, 66])
  (.cond (.s 67) (.seq (.reg [⟨some 68, .build [.int .i64 0, .int .i64 0, .int .i64 0, .int .i64 0, .nils] [], none⟩,
    ⟨none, .stl true 5 2 (.s 2) (.s 68), none⟩] [])
  (.ret))
  (.skip)))
  (.seq (.reg [⟨some 69, .ldl true true 5 3 (.s 3), none⟩,
    ⟨none, .stl true 5 2 (.s 2) (.s 69), none⟩] [])
  (.ret))
def tf_ref19_Read : TF := ⟨70, [.cell 2 true 5],
  .seq (.reg [⟨some 2, .lal [.int .i64 0, .int .i64 0, .int .i64 0, .int .i64 0, .nils], none⟩] [5, 6, 21, 22, 23, 24, 25, 26, 27, 28, 29, 30, 31, 32, 33, 34, 35, 36, 37, 38, 39, 40, 41, 42, 43, 44, 45, 46, 47, 48, 49, 50, 51, 52, 53, 54])
  (.seq (.reg [⟨some 7, .mv false (.s 0), none⟩,
    ⟨some 8, .call 0 n_ref02_Reader_Num [(false, (.s 7)), (false, (.c (.int .i64 1099511627776)))], none⟩,
    ⟨some 9, .build [.int .i64 0, .int .i64 0, .int .i64 0, .int .i64 0, .nils] [(0, 1, (.s 8))], none⟩,
    ⟨some 3, .lal [.int .i64 0, .int .i64 0, .int .i64 0, .int .i64 0, .nils], none⟩,
    ⟨none, .stl true 5 3 (.s 3) (.s 9), none⟩] [7, 8, 9])
  (.seq (.reg [⟨some 10, .mv false (.s 0), none⟩,
    ⟨some 11, .call 0 n_ref02_Reader_Num [(false, (.s 10)), (false, (.c (.int .i64 1099511627776)))], none⟩,
    ⟨some 12, .fa 1 (.s 3), none⟩,
    ⟨none, .stl false 1 3 (.s 12) (.s 11), none⟩] [10, 11, 12])
  (.seq (.reg [⟨some 13, .mv false (.s 0), none⟩,
    ⟨some 14, .call 0 n_ref02_Reader_Num [(false, (.s 13)), (false, (.c (.int .i64 1099511627776)))], none⟩,
    ⟨some 15, .fa 2 (.s 3), none⟩,
    ⟨none, .stl false 1 3 (.s 15) (.s 14), none⟩] [13, 14, 15])
  (.seq (.reg [⟨some 16, .mv false (.s 0), none⟩,
    ⟨some 17, .call 0 n_ref02_Reader_Num [(false, (.s 16)), (false, (.c (.int .i64 2147483648)))], none⟩,
    ⟨some 18, .fa 3 (.s 3), none⟩,
    ⟨none, .stl false 1 3 (.s 18) (.s 17), none⟩] [16, 17, 18])
  (.seq (.reg [⟨some 19, .mv false (.s 0), none⟩,
    ⟨some 20, .call 0 n_ref02_Reader_Num [(false, (.s 19)), (false, (.c (.int .i64 8)))], none⟩,
    ⟨some 4, .mv false (.s 20), none⟩] [19, 20])
  (.seq (.seq (.reg [⟨some 5, .mv false (.c (.int .i64 0)), none⟩] [])
  (.block 0 (.loop lp_ref19_Read_1)))
  (.seq (.seq (.reg [⟨some 55, .mv false (.s 0), none⟩,
    ⟨some 56, .call 0 n_ref02_Reader_Err [(false, (.s 55))], none⟩,
    ⟨some 57, .ar .eql (.s 56) (.c (.int .i64 0)), none⟩,
    ⟨some 58, .mv false (.s 57), none⟩,
    ⟨some 59, .ldl false true 5 3 (.s 3), (some (58, true))⟩,
    ⟨some 60, .call 0 n_ref19_Check [(false, (.s 59))], (some (58, true))⟩,
    ⟨some 61, .not (.s 60), (some (58, true))⟩,
    ⟨some 62, .pick (.s 58) (.s 61) (.c (.bool false)), none⟩] [4, 5, 28, 55, 56, 57, 58, 59, 60, 61])
  (.cond (.s 62) (.reg [⟨some 63, .mv false (.s 0), none⟩,
    ⟨some 64, .call 0 n_ref02_Reader_Fail [(false, (.s 63)), (false, (.c (.int .i64 3)))], none⟩] [62, 63, 64])
  (.skip)))
  (jn_ref19_Read_2)))))))), true⟩
/-- slices.Equal[[]byte,byte] -/
def lp_slices_Equal_byte_byte_1 : TC :=
  .seq (.reg [⟨some 14, .ar .lss (.s 13) (.s 12), none⟩] [])
  (.seq (.cond (.s 14) (.skip)
  (.exit 0))
  (.seq (.block 1 (.seq (.reg [⟨some 15, .mv false (.s 13), none⟩,
    ⟨some 5, .mv false (.s 15), none⟩] [14, 15])
  (.seq (.reg [⟨some 16, .mv false (.s 0), none⟩,
    ⟨some 17, .mv false (.s 5), none⟩,
    ⟨some 18, .ia 1 (.s 16) (.s 17), none⟩,
    ⟨some 19, .ldh false false 1 (.s 18), none⟩,
    ⟨some 20, .mv false (.s 1), none⟩,
    ⟨some 21, .mv false (.s 5), none⟩,
    ⟨some 22, .ia 1 (.s 20) (.s 21), none⟩,
    ⟨some 23, .ldh false false 1 (.s 22), none⟩,
    ⟨some 24, .ar .neq (.s 19) (.s 23), none⟩] [5, 16, 17, 18, 19, 20, 21, 22, 23])
  (.cond (.s 24) (.seq (.reg [⟨some 4, .mv false (.c (.bool false)), none⟩] [])
  (.ret))
  (.skip)))))
  (.reg [⟨some 25, .ar .add (.s 13) (.c (.int .i64 1)), none⟩,
    ⟨some 13, .mv false (.s 25), none⟩] [24, 25])))
def tf_slices_Equal_byte_byte : TF := ⟨26, [.tmp 4],
  .seq (.reg [⟨some 4, .mv false (.c (.bool false)), none⟩] [4, 5, 13, 14, 15, 16, 17, 18, 19, 20, 21, 22, 23, 24, 25])
  (.seq (.seq (.reg [⟨some 6, .mv false (.s 0), none⟩,
    ⟨some 7, .len false (.s 6), none⟩,
    ⟨some 8, .mv false (.s 1), none⟩,
    ⟨some 9, .len false (.s 8), none⟩,
    ⟨some 10, .ar .neq (.s 7) (.s 9), none⟩] [6, 7, 8, 9])
  (.cond (.s 10) (.seq (.reg [⟨some 4, .mv false (.c (.bool false)), none⟩] [])
  (.ret))
  (.skip)))
  (.seq (.seq (.reg [⟨some 11, .mv false (.s 0), none⟩,
    ⟨some 12, .len false (.s 11), none⟩,
    ⟨some 13, .mv false (.c (.int .i64 0)), none⟩] [10, 11])
  (.block 0 (.loop lp_slices_Equal_byte_byte_1)))
  (.seq (.reg [⟨some 4, .mv false (.c (.bool true)), none⟩] [])
  (.ret)))), true⟩
/-- bailey/ledger.Put -/
def lp_ledger_Put_1 : TC :=
  .seq (.reg [⟨some 25, .ar .lss (.s 24) (.s 23), none⟩] [])
  (.seq (.cond (.s 25) (.skip)
  (.exit 0))
  (.seq (.block 1 (.seq (.reg [⟨some 26, .ia 6 (.s 22) (.s 24), none⟩,
    ⟨some 27, .ldh false true 6 (.s 26), none⟩,
    ⟨some 6, .lal [.int .i64 0, .int .i64 0, .int .i64 0, .int .i64 0, .int .i64 0, .str ⟨#[]⟩], none⟩,
    ⟨none, .stl false 6 6 (.s 6) (.s 27), none⟩] [25, 26, 27])
  (.seq (.reg [⟨some 28, .mv false (.s 0), none⟩,
    ⟨some 29, .fa 0 (.s 6), none⟩,
    ⟨some 30, .ldl false false 1 6 (.s 29), none⟩,
    ⟨some 31, .fa 1 (.s 6), none⟩,
    ⟨some 32, .ldl false false 1 6 (.s 31), none⟩,
    ⟨some 33, .fa 2 (.s 6), none⟩,
    ⟨some 34, .ldl false false 1 6 (.s 33), none⟩,
    ⟨some 35, .fa 3 (.s 6), none⟩,
    ⟨some 36, .ldl false false 1 6 (.s 35), none⟩,
    ⟨some 37, .fa 4 (.s 6), none⟩,
    ⟨some 38, .ldl false false 1 6 (.s 37), none⟩,
    ⟨some 39, .bsl false 1 5 [.int .i64 0] [(0, (.s 30)), (1, (.s 32)), (2, (.s 34)), (3, (.s 36)), (4, (.s 38))], none⟩,
    ⟨some 40, .call 0 n_ledger_put [(false, (.s 28)), (false, (.s 39))], none⟩,
    ⟨some 0, .mv true (.s 40), none⟩] [28, 29, 30, 31, 32, 33, 34, 35, 36, 37, 38, 39, 40])
  (.reg [⟨some 41, .mv false (.s 0), none⟩,
    ⟨some 42, .fa 5 (.s 6), none⟩,
    ⟨some 43, .ldl false false 1 6 (.s 42), none⟩,
    ⟨some 44, .call 0 n_pack_Text [(false, (.s 41)), (false, (.s 43))], none⟩,
    ⟨some 0, .mv true (.s 44), none⟩] [6, 41, 42, 43, 44]))))
  (.reg [⟨some 45, .ar .add (.s 24) (.c (.int .i64 1)), none⟩,
    ⟨some 24, .mv false (.s 45), none⟩] [45])))
def tf_ledger_Put : TF := ⟨47, [.tmp 4],
  .seq (.reg [⟨some 3, .lbx true (.s 1), none⟩,
    ⟨some 4, .mv true (.c (.nils)), none⟩] [1, 4, 6, 24, 25, 26, 27, 28, 29, 30, 31, 32, 33, 34, 35, 36, 37, 38, 39, 40, 41, 42, 43, 44, 45])
  (.seq (.reg [⟨some 7, .mv false (.s 0), none⟩,
    ⟨some 8, .fa 0 (.s 3), none⟩,
    ⟨some 9, .ldl false false 1 3 (.s 8), none⟩,
    ⟨some 10, .fa 1 (.s 3), none⟩,
    ⟨some 11, .ldl false false 1 3 (.s 10), none⟩,
    ⟨some 12, .fa 2 (.s 3), none⟩,
    ⟨some 13, .ldl false false 1 3 (.s 12), none⟩,
    ⟨some 14, .fa 3 (.s 3), none⟩,
    ⟨some 15, .ldl false false 1 3 (.s 14), none⟩,
    ⟨some 16, .fa 4 (.s 3), none⟩,
    ⟨some 17, .ldl false false 1 3 (.s 16), none⟩,
    ⟨some 18, .len false (.s 17), none⟩,
    ⟨some 19, .bsl false 1 5 [.int .i64 0] [(0, (.s 9)), (1, (.s 11)), (2, (.s 13)), (3, (.s 15)), (4, (.s 18))], none⟩,
    ⟨some 20, .call 0 n_ledger_put [(false, (.s 7)), (false, (.s 19))], none⟩,
    ⟨some 0, .mv true (.s 20), none⟩] [7, 8, 9, 10, 11, 12, 13, 14, 15, 16, 17, 18, 19, 20])
  (.seq (.seq (.reg [⟨some 21, .fa 4 (.s 3), none⟩,
    ⟨some 22, .ldl false false 1 3 (.s 21), none⟩,
    ⟨some 23, .len false (.s 22), none⟩,
    ⟨some 24, .mv false (.c (.int .i64 0)), none⟩] [3, 21])
  (.block 0 (.loop lp_ledger_Put_1)))
  (.seq (.reg [⟨some 46, .mv false (.s 0), none⟩,
    ⟨some 4, .mv true (.s 46), none⟩] [])
  (.ret)))), true⟩
/-- bailey/baileyref19.Put -/
def lp_ref19_Put_1 : TC :=
  .seq (.seq (.reg [⟨some 25, .mv false (.s 5), none⟩,
    ⟨some 26, .fa 4 (.s 3), none⟩,
    ⟨some 27, .ldl false false 1 3 (.s 26), none⟩,
    ⟨some 28, .len false (.s 27), none⟩,
    ⟨some 29, .ar .lss (.s 25) (.s 28), none⟩] [25, 26, 27, 28])
  (.cond (.s 29) (.skip)
  (.exit 0)))
  (.seq (.block 1 (.seq (.reg [⟨some 32, .fa 4 (.s 3), none⟩,
    ⟨some 33, .ldl false false 1 3 (.s 32), none⟩,
    ⟨some 34, .mv false (.s 5), none⟩,
    ⟨some 35, .ia 6 (.s 33) (.s 34), none⟩,
    ⟨some 36, .ldh false true 6 (.s 35), none⟩,
    ⟨some 6, .lal [.int .i64 0, .int .i64 0, .int .i64 0, .int .i64 0, .int .i64 0, .str ⟨#[]⟩], none⟩,
    ⟨none, .stl false 6 6 (.s 6) (.s 36), none⟩] [29, 32, 33, 34, 35, 36])
  (.seq (.reg [⟨some 37, .mv false (.s 0), none⟩,
    ⟨some 38, .fa 0 (.s 6), none⟩,
    ⟨some 39, .ldl false false 1 6 (.s 38), none⟩,
    ⟨some 40, .call 0 n_ref02_Num [(false, (.s 37)), (false, (.s 39))], none⟩,
    ⟨some 41, .fa 1 (.s 6), none⟩,
    ⟨some 42, .ldl false false 1 6 (.s 41), none⟩,
    ⟨some 43, .call 0 n_ref02_Num [(false, (.s 40)), (false, (.s 42))], none⟩,
    ⟨some 44, .fa 2 (.s 6), none⟩,
    ⟨some 45, .ldl false false 1 6 (.s 44), none⟩,
    ⟨some 46, .call 0 n_ref02_Num [(false, (.s 43)), (false, (.s 45))], none⟩,
    ⟨some 0, .mv true (.s 46), none⟩] [37, 38, 39, 40, 41, 42, 43, 44, 45, 46])
  (.reg [⟨some 47, .mv false (.s 0), none⟩,
    ⟨some 48, .fa 3 (.s 6), none⟩,
    ⟨some 49, .ldl false false 1 6 (.s 48), none⟩,
    ⟨some 50, .call 0 n_ref02_Num [(false, (.s 47)), (false, (.s 49))], none⟩,
    ⟨some 51, .fa 4 (.s 6), none⟩,
    ⟨some 52, .ldl false false 1 6 (.s 51), none⟩,
    ⟨some 53, .call 0 n_ref02_Num [(false, (.s 50)), (false, (.s 52))], none⟩,
    ⟨some 54, .fa 5 (.s 6), none⟩,
    ⟨some 55, .ldl false false 1 6 (.s 54), none⟩,
    ⟨some 56, .call 0 n_ref02_Text [(false, (.s 53)), (false, (.s 55))], none⟩,
    ⟨some 0, .mv true (.s 56), none⟩] [6, 47, 48, 49, 50, 51, 52, 53, 54, 55, 56]))))
  (.reg [⟨some 30, .mv false (.s 5), none⟩,
    ⟨some 31, .ar .add (.s 30) (.c (.int .i64 1)), none⟩,
    ⟨some 5, .mv false (.s 31), none⟩] [30, 31]))
def tf_ref19_Put : TF := ⟨58, [.tmp 4],
  .seq (.reg [⟨some 3, .lbx true (.s 1), none⟩,
    ⟨some 4, .mv true (.c (.nils)), none⟩] [1, 4, 5, 6, 25, 26, 27, 28, 29, 30, 31, 32, 33, 34, 35, 36, 37, 38, 39, 40, 41, 42, 43, 44, 45, 46, 47, 48, 49, 50, 51, 52, 53, 54, 55, 56])
  (.seq (.reg [⟨some 7, .mv false (.s 0), none⟩,
    ⟨some 8, .fa 0 (.s 3), none⟩,
    ⟨some 9, .ldl false false 1 3 (.s 8), none⟩,
    ⟨some 10, .call 0 n_ref02_Num [(false, (.s 7)), (false, (.s 9))], none⟩,
    ⟨some 11, .fa 1 (.s 3), none⟩,
    ⟨some 12, .ldl false false 1 3 (.s 11), none⟩,
    ⟨some 13, .call 0 n_ref02_Num [(false, (.s 10)), (false, (.s 12))], none⟩,
    ⟨some 14, .fa 2 (.s 3), none⟩,
    ⟨some 15, .ldl false false 1 3 (.s 14), none⟩,
    ⟨some 16, .call 0 n_ref02_Num [(false, (.s 13)), (false, (.s 15))], none⟩,
    ⟨some 0, .mv true (.s 16), none⟩] [7, 8, 9, 10, 11, 12, 13, 14, 15, 16])
  (.seq (.reg [⟨some 17, .mv false (.s 0), none⟩,
    ⟨some 18, .fa 3 (.s 3), none⟩,
    ⟨some 19, .ldl false false 1 3 (.s 18), none⟩,
    ⟨some 20, .call 0 n_ref02_Num [(false, (.s 17)), (false, (.s 19))], none⟩,
    ⟨some 21, .fa 4 (.s 3), none⟩,
    ⟨some 22, .ldl false false 1 3 (.s 21), none⟩,
    ⟨some 23, .len false (.s 22), none⟩,
    ⟨some 24, .call 0 n_ref02_Num [(false, (.s 20)), (false, (.s 23))], none⟩,
    ⟨some 0, .mv true (.s 24), none⟩] [17, 18, 19, 20, 21, 22, 23, 24])
  (.seq (.seq (.reg [⟨some 5, .mv false (.c (.int .i64 0)), none⟩] [])
  (.block 0 (.loop lp_ref19_Put_1)))
  (.seq (.reg [⟨some 57, .mv false (.s 0), none⟩,
    ⟨some 4, .mv true (.s 57), none⟩] [])
  (.ret))))), true⟩
/-- bailey/baileyref19.Same -/
def lp_ref19_Same_1 : TC :=
  .seq (.seq (.reg [⟨some 41, .mv false (.s 5), none⟩,
    ⟨some 42, .fa 4 (.s 2), none⟩,
    ⟨some 43, .ldl false false 1 2 (.s 42), none⟩,
    ⟨some 44, .len false (.s 43), none⟩,
    ⟨some 45, .ar .lss (.s 41) (.s 44), none⟩] [41, 42, 43, 44])
  (.cond (.s 45) (.skip)
  (.exit 0)))
  (.seq (.block 1 (.seq (.reg [⟨some 48, .fa 4 (.s 2), none⟩,
    ⟨some 49, .ldl false false 1 2 (.s 48), none⟩,
    ⟨some 50, .mv false (.s 5), none⟩,
    ⟨some 51, .ia 6 (.s 49) (.s 50), none⟩,
    ⟨some 52, .ldh false true 6 (.s 51), none⟩,
    ⟨some 53, .fa 4 (.s 3), none⟩,
    ⟨some 54, .ldl false false 1 3 (.s 53), none⟩,
    ⟨some 55, .mv false (.s 5), none⟩,
    ⟨some 56, .ia 6 (.s 54) (.s 55), none⟩,
    ⟨some 57, .ldh false true 6 (.s 56), none⟩,
    ⟨some 58, .eqs true [(0, 0), (1, 0), (2, 0), (3, 0), (4, 0), (5, 2)] (.s 52) (.s 57), none⟩] [45, 48, 49, 50, 51, 52, 53, 54, 55, 56, 57])
  (.cond (.s 58) (.seq (.reg [⟨some 4, .mv false (.c (.bool false)), none⟩] [])
  (.ret))
  (.skip))))
  (.reg [⟨some 46, .mv false (.s 5), none⟩,
    ⟨some 47, .ar .add (.s 46) (.c (.int .i64 1)), none⟩,
    ⟨some 5, .mv false (.s 47), none⟩] [46, 47, 58]))
def tf_ref19_Same : TF := ⟨59, [.tmp 4],
  .seq (.reg [⟨some 2, .lbx true (.s 0), none⟩,
    ⟨some 3, .lbx true (.s 1), none⟩,
    ⟨some 4, .mv false (.c (.bool false)), none⟩] [0, 1, 4, 5, 41, 42, 43, 44, 45, 46, 47, 48, 49, 50, 51, 52, 53, 54, 55, 56, 57, 58])
  (.seq (.seq (.reg [⟨some 6, .fa 0 (.s 2), none⟩,
    ⟨some 7, .ldl false false 1 2 (.s 6), none⟩,
    ⟨some 8, .fa 0 (.s 3), none⟩,
    ⟨some 9, .ldl false false 1 3 (.s 8), none⟩,
    ⟨some 10, .ar .neq (.s 7) (.s 9), none⟩,
    ⟨some 11, .mv false (.s 10), none⟩,
    ⟨some 12, .fa 1 (.s 2), (some (11, false))⟩,
    ⟨some 13, .ldl false false 1 2 (.s 12), (some (11, false))⟩,
    ⟨some 14, .fa 1 (.s 3), (some (11, false))⟩,
    ⟨some 15, .ldl false false 1 3 (.s 14), (some (11, false))⟩,
    ⟨some 16, .ar .neq (.s 13) (.s 15), (some (11, false))⟩,
    ⟨some 17, .pick (.s 11) (.c (.bool true)) (.s 16), none⟩,
    ⟨some 18, .mv false (.s 17), none⟩,
    ⟨some 19, .fa 2 (.s 2), (some (18, false))⟩,
    ⟨some 20, .ldl false false 1 2 (.s 19), (some (18, false))⟩,
    ⟨some 21, .fa 2 (.s 3), (some (18, false))⟩,
    ⟨some 22, .ldl false false 1 3 (.s 21), (some (18, false))⟩,
    ⟨some 23, .ar .neq (.s 20) (.s 22), (some (18, false))⟩,
    ⟨some 24, .pick (.s 18) (.c (.bool true)) (.s 23), none⟩,
    ⟨some 25, .mv false (.s 24), none⟩,
    ⟨some 26, .fa 3 (.s 2), (some (25, false))⟩,
    ⟨some 27, .ldl false false 1 2 (.s 26), (some (25, false))⟩,
    ⟨some 28, .fa 3 (.s 3), (some (25, false))⟩,
    ⟨some 29, .ldl false false 1 3 (.s 28), (some (25, false))⟩,
    ⟨some 30, .ar .neq (.s 27) (.s 29), (some (25, false))⟩,
    ⟨some 31, .pick (.s 25) (.c (.bool true)) (.s 30), none⟩,
    ⟨some 32, .mv false (.s 31), none⟩,
    ⟨some 33, .fa 4 (.s 2), (some (32, false))⟩,
    ⟨some 34, .ldl false false 1 2 (.s 33), (some (32, false))⟩,
    ⟨some 35, .len false (.s 34), (some (32, false))⟩,
    ⟨some 36, .fa 4 (.s 3), (some (32, false))⟩,
    ⟨some 37, .ldl false false 1 3 (.s 36), (some (32, false))⟩,
    ⟨some 38, .len false (.s 37), (some (32, false))⟩,
    ⟨some 39, .ar .neq (.s 35) (.s 38), (some (32, false))⟩,
    ⟨some 40, .pick (.s 32) (.c (.bool true)) (.s 39), none⟩] [6, 7, 8, 9, 10, 11, 12, 13, 14, 15, 16, 17, 18, 19, 20, 21, 22, 23, 24, 25, 26, 27, 28, 29, 30, 31, 32, 33, 34, 35, 36, 37, 38, 39])
  (.cond (.s 40) (.seq (.reg [⟨some 4, .mv false (.c (.bool false)), none⟩] [])
  (.ret))
  (.skip)))
  (.seq (.seq (.reg [⟨some 5, .mv false (.c (.int .i64 0)), none⟩] [40])
  (.block 0 (.loop lp_ref19_Same_1)))
  (.seq (.reg [⟨some 4, .mv false (.c (.bool true)), none⟩] [])
  (.ret)))), true⟩
/-- (*bailey/pack.Reader).Err -/
def tf_pack_Reader_Err : TF := ⟨16, [.tmp 2],
  .seq (.reg [⟨some 2, .mv false (.c (.int .i64 0)), none⟩] [2])
  (.seq (.seq (.reg [⟨some 3, .mv false (.s 0), none⟩,
    ⟨some 4, .eqp false (.s 3) (.c (.nilp)), none⟩,
    ⟨some 5, .mv false (.s 4), none⟩,
    ⟨some 6, .mv false (.s 0), (some (5, false))⟩,
    ⟨some 7, .nilc (.s 6), (some (5, false))⟩,
    ⟨some 8, .fa 2 (.s 7), (some (5, false))⟩,
    ⟨some 9, .ldh false false 1 (.s 8), (some (5, false))⟩,
    ⟨some 10, .not (.s 9), (some (5, false))⟩,
    ⟨some 11, .pick (.s 5) (.c (.bool true)) (.s 10), none⟩] [3, 4, 5, 6, 7, 8, 9, 10])
  (.cond (.s 11) (.seq (.reg [⟨some 2, .mv false (.c (.int .i64 2)), none⟩] [])
  (.ret))
  (.skip)))
  (.seq (.reg [⟨some 12, .mv false (.s 0), none⟩,
    ⟨some 13, .nilc (.s 12), none⟩,
    ⟨some 14, .fa 1 (.s 13), none⟩,
    ⟨some 15, .ldh false false 1 (.s 14), none⟩,
    ⟨some 2, .mv false (.s 15), none⟩] [])
  (.ret))), true⟩
/-- (*bailey/baileyref02.Reader).Err -/
def tf_ref02_Reader_Err : TF := ⟨7, [.tmp 2],
  .seq (.reg [⟨some 2, .mv false (.c (.int .i64 0)), none⟩] [2])
  (.seq (.reg [⟨some 3, .mv false (.s 0), none⟩,
    ⟨some 4, .nilc (.s 3), none⟩,
    ⟨some 5, .fa 1 (.s 4), none⟩,
    ⟨some 6, .ldh false false 1 (.s 5), none⟩,
    ⟨some 2, .mv false (.s 6), none⟩] [])
  (.ret)), true⟩
/-- (*bailey/pack.Reader).Left -/
def tf_pack_Reader_Left : TF := ⟨11, [.tmp 2],
  .seq (.reg [⟨some 2, .mv false (.c (.int .i64 0)), none⟩] [2])
  (.seq (.seq (.reg [⟨some 3, .mv false (.s 0), none⟩,
    ⟨some 4, .call 0 n_pack_Reader_works [(false, (.s 3))], none⟩,
    ⟨some 5, .not (.s 4), none⟩] [3, 4])
  (.cond (.s 5) (.seq (.reg [⟨some 2, .mv false (.c (.int .i64 0)), none⟩] [])
  (.ret))
  (.skip)))
  (.seq (.reg [⟨some 6, .mv false (.s 0), none⟩,
    ⟨some 7, .nilc (.s 6), none⟩,
    ⟨some 8, .fa 0 (.s 7), none⟩,
    ⟨some 9, .ldh false false 1 (.s 8), none⟩,
    ⟨some 10, .len false (.s 9), none⟩,
    ⟨some 2, .mv false (.s 10), none⟩] [])
  (.ret))), true⟩
/-- (*bailey/baileyref02.Reader).Left -/
def tf_ref02_Reader_Left : TF := ⟨8, [.tmp 2],
  .seq (.reg [⟨some 2, .mv false (.c (.int .i64 0)), none⟩] [2])
  (.seq (.reg [⟨some 3, .mv false (.s 0), none⟩,
    ⟨some 4, .nilc (.s 3), none⟩,
    ⟨some 5, .fa 0 (.s 4), none⟩,
    ⟨some 6, .ldh false false 1 (.s 5), none⟩,
    ⟨some 7, .len false (.s 6), none⟩,
    ⟨some 2, .mv false (.s 7), none⟩] [])
  (.ret)), true⟩
/-- (*bailey/pack.Reader).End -/
def tf_pack_Reader_End : TF := ⟨8, [.tmp 2],
  .seq (.reg [⟨some 2, .mv false (.c (.int .i64 0)), none⟩] [2])
  (.seq (.seq (.reg [⟨some 3, .mv false (.s 0), none⟩,
    ⟨some 4, .call 0 n_pack_Reader_Left [(false, (.s 3))], none⟩,
    ⟨some 5, .ar .gtr (.s 4) (.c (.int .i64 0)), none⟩] [3, 4])
  (.cond (.s 5) (.seq (.reg [⟨some 2, .mv false (.c (.int .i64 3)), none⟩] [])
  (.ret))
  (.skip)))
  (.seq (.reg [⟨some 6, .mv false (.s 0), none⟩,
    ⟨some 7, .call 0 n_pack_Reader_Err [(false, (.s 6))], none⟩,
    ⟨some 2, .mv false (.s 7), none⟩] [])
  (.ret))), true⟩
/-- bailey/nums.Within -/
def tf_nums_Within : TF := ⟨15, [.tmp 6],
  .seq (.reg [⟨some 6, .mv false (.c (.bool false)), none⟩] [6])
  (.seq (.reg [⟨some 7, .mv false (.s 1), none⟩,
    ⟨some 8, .mv false (.s 0), none⟩,
    ⟨some 9, .ar .leq (.s 7) (.s 8), none⟩,
    ⟨some 10, .mv false (.s 9), none⟩,
    ⟨some 11, .mv false (.s 0), (some (10, true))⟩,
    ⟨some 12, .mv false (.s 2), (some (10, true))⟩,
    ⟨some 13, .ar .leq (.s 11) (.s 12), (some (10, true))⟩,
    ⟨some 14, .pick (.s 10) (.s 13) (.c (.bool false)), none⟩,
    ⟨some 6, .mv false (.s 14), none⟩] [])
  (.ret)), true⟩
/-- bailey/ledger.ordered -/
def lp_ledger_ordered_1 : TC :=
  .seq (.reg [⟨some 11, .ar .lss (.s 10) (.s 9), none⟩] [])
  (.seq (.cond (.s 11) (.skip)
  (.exit 0))
  (.seq (.block 1 (.seq (.reg [⟨some 12, .ia 6 (.s 8) (.s 10), none⟩,
    ⟨some 13, .ldh false true 6 (.s 12), none⟩,
    ⟨some 7, .lal [.int .i64 0, .int .i64 0, .int .i64 0, .int .i64 0, .int .i64 0, .str ⟨#[]⟩], none⟩,
    ⟨none, .stl false 6 7 (.s 7) (.s 13), none⟩] [11, 12, 13])
  (.seq (.seq (.reg [⟨some 14, .fa 0 (.s 7), none⟩,
    ⟨some 15, .ldl false false 1 7 (.s 14), none⟩,
    ⟨some 16, .mv false (.s 5), none⟩,
    ⟨some 17, .ar .leq (.s 15) (.s 16), none⟩,
    ⟨some 18, .mv false (.s 17), none⟩,
    ⟨some 19, .fa 0 (.s 7), (some (18, false))⟩,
    ⟨some 20, .ldl false false 1 7 (.s 19), (some (18, false))⟩,
    ⟨some 21, .mv false (.s 1), (some (18, false))⟩,
    ⟨some 22, .ar .geq (.s 20) (.s 21), (some (18, false))⟩,
    ⟨some 23, .pick (.s 18) (.c (.bool true)) (.s 22), none⟩] [5, 14, 15, 16, 17, 18, 19, 20, 21, 22])
  (.cond (.s 23) (.seq (.reg [⟨some 4, .mv false (.c (.bool false)), none⟩] [])
  (.ret))
  (.skip)))
  (.reg [⟨some 24, .fa 0 (.s 7), none⟩,
    ⟨some 25, .ldl false false 1 7 (.s 24), none⟩,
    ⟨some 5, .mv false (.s 25), none⟩] [7, 23, 24, 25]))))
  (.reg [⟨some 26, .ar .add (.s 10) (.c (.int .i64 1)), none⟩,
    ⟨some 10, .mv false (.s 26), none⟩] [26])))
def tf_ledger_ordered : TF := ⟨27, [.tmp 4],
  .seq (.reg [⟨some 4, .mv false (.c (.bool false)), none⟩] [4, 5, 7, 10, 11, 12, 13, 14, 15, 16, 17, 18, 19, 20, 21, 22, 23, 24, 25, 26])
  (.seq (.reg [⟨some 5, .mv false (.c (.int .i64 0)), none⟩] [])
  (.seq (.seq (.reg [⟨some 8, .mv true (.s 0), none⟩,
    ⟨some 9, .len false (.s 8), none⟩,
    ⟨some 10, .mv false (.c (.int .i64 0)), none⟩] [0])
  (.block 0 (.loop lp_ledger_ordered_1)))
  (.seq (.reg [⟨some 4, .mv false (.c (.bool true)), none⟩] [])
  (.ret)))), true⟩
/-- bailey/ledger.mayHold -/
def jn_ledger_mayHold_1 : TC :=
  .cond (.s 12) (.seq (.reg [⟨some 2, .mv false (.c (.bool false)), none⟩] [])
  (.ret))
  (.skip)
def jn_ledger_mayHold_2 : TC :=
  .cond (.s 3) (.seq (.reg [⟨some 2, .mv false (.c (.bool false)), none⟩] [])
  (.ret))
  (.seq (.seq (.reg [⟨some 13, .fa 2 (.s 1), none⟩,
    ⟨some 14, .ldl false false 1 1 (.s 13), none⟩,
    ⟨some 15, .call 0 n_nums_Within [(false, (.s 14)), (false, (.c (.int .i64 0))), (false, (.c (.int .i64 1099511627776)))], none⟩,
    ⟨some 16, .not (.s 15), none⟩,
    ⟨some 12, .mv false (.s 16), none⟩] [3, 13, 14, 15, 16])
  (.cond (.s 12) (.skip)
  (.seq (.reg [⟨some 17, .fa 3 (.s 1), none⟩,
    ⟨some 18, .ldl false false 1 1 (.s 17), none⟩,
    ⟨some 19, .call 0 n_nums_Within [(false, (.s 18)), (false, (.c (.int .i64 0))), (false, (.c (.int .i64 1099511627776)))], none⟩,
    ⟨some 20, .not (.s 19), none⟩,
    ⟨some 12, .mv false (.s 20), none⟩] [17, 18, 19, 20])
  (.cond (.s 12) (.skip)
  (.reg [⟨some 21, .fa 4 (.s 1), none⟩,
    ⟨some 22, .ldl false false 1 1 (.s 21), none⟩,
    ⟨some 23, .call 0 n_nums_Within [(false, (.s 22)), (false, (.c (.int .i64 0))), (false, (.c (.int .i64 1099511627776)))], none⟩,
    ⟨some 24, .not (.s 23), none⟩,
    ⟨some 12, .mv false (.s 24), none⟩] [21, 22, 23, 24])))))
  (jn_ledger_mayHold_1))
def tf_ledger_mayHold : TF := ⟨28, [.tmp 2],
  .seq (.reg [⟨some 1, .lbx false (.s 0), none⟩,
    ⟨some 2, .mv false (.c (.bool false)), none⟩] [0, 2])
  (.seq (.block 0 (.seq (.seq (.reg [⟨some 4, .fa 0 (.s 1), none⟩,
    ⟨some 5, .ldl false false 1 1 (.s 4), none⟩,
    ⟨some 6, .call 0 n_nums_Within [(false, (.s 5)), (false, (.c (.int .i64 1))), (false, (.c (.int .i64 2147483648)))], none⟩,
    ⟨some 7, .not (.s 6), none⟩,
    ⟨some 3, .mv false (.s 7), none⟩] [4, 5, 6, 7])
  (.cond (.s 3) (.skip)
  (.reg [⟨some 8, .fa 1 (.s 1), none⟩,
    ⟨some 9, .ldl false false 1 1 (.s 8), none⟩,
    ⟨some 10, .call 0 n_nums_Within [(false, (.s 9)), (false, (.c (.int .i64 0))), (false, (.c (.int .i64 7)))], none⟩,
    ⟨some 11, .not (.s 10), none⟩,
    ⟨some 3, .mv false (.s 11), none⟩] [8, 9, 10, 11])))
  (jn_ledger_mayHold_2)))
  (.seq (.reg [⟨some 25, .fa 5 (.s 1), none⟩,
    ⟨some 26, .ldl false false 1 1 (.s 25), none⟩,
    ⟨some 27, .call 0 n_caveat_Name [(false, (.s 26))], none⟩,
    ⟨some 2, .mv false (.s 27), none⟩] [])
  (.ret))), true⟩
/-- bailey/ledger.total -/
def lp_ledger_total_1 : TC :=
  .seq (.reg [⟨some 12, .ar .lss (.s 11) (.s 10), none⟩] [])
  (.seq (.cond (.s 12) (.skip)
  (.exit 0))
  (.seq (.block 1 (.seq (.reg [⟨some 13, .ia 6 (.s 9) (.s 11), none⟩,
    ⟨some 14, .ldh false true 6 (.s 13), none⟩,
    ⟨some 6, .lal [.int .i64 0, .int .i64 0, .int .i64 0, .int .i64 0, .int .i64 0, .str ⟨#[]⟩], none⟩,
    ⟨none, .stl false 6 6 (.s 6) (.s 14), none⟩] [12, 13, 14])
  (.seq (.reg [⟨some 16, .mv false (.s 4), none⟩,
    ⟨some 17, .fa 2 (.s 6), none⟩,
    ⟨some 18, .ldl false false 1 6 (.s 17), none⟩,
    ⟨some 19, .call 0 n_nums_Add [(false, (.s 16)), (false, (.s 18))], none⟩,
    ⟨some 15, .mv true (.s 19), none⟩,
    ⟨some 20, .ext false 0 (.s 15), none⟩,
    ⟨some 21, .ext false 1 (.s 15), none⟩,
    ⟨some 7, .mv false (.s 20), none⟩,
    ⟨some 8, .mv false (.s 21), none⟩] [4, 6, 15, 16, 17, 18, 19, 20, 21])
  (.seq (.seq (.reg [⟨some 22, .mv false (.s 8), none⟩,
    ⟨some 23, .ar .neq (.s 22) (.c (.int .i64 0)), none⟩] [8, 22])
  (.cond (.s 23) (.seq (.reg [⟨some 2, .mv false (.c (.int .i64 0)), none⟩,
    ⟨some 3, .mv false (.c (.bool false)), none⟩] [])
  (.ret))
  (.skip)))
  (.reg [⟨some 24, .mv false (.s 7), none⟩,
    ⟨some 4, .mv false (.s 24), none⟩] [7, 23, 24])))))
  (.reg [⟨some 25, .ar .add (.s 11) (.c (.int .i64 1)), none⟩,
    ⟨some 11, .mv false (.s 25), none⟩] [25])))
def tf_ledger_total : TF := ⟨27, [.tmp 2, .tmp 3],
  .seq (.reg [⟨some 2, .mv false (.c (.int .i64 0)), none⟩,
    ⟨some 3, .mv false (.c (.bool false)), none⟩] [2, 3, 4, 6, 7, 8, 11, 12, 13, 14, 15, 16, 17, 18, 19, 20, 21, 22, 23, 24, 25])
  (.seq (.reg [⟨some 4, .mv false (.c (.int .i64 0)), none⟩] [])
  (.seq (.seq (.reg [⟨some 9, .mv true (.s 0), none⟩,
    ⟨some 10, .len false (.s 9), none⟩,
    ⟨some 11, .mv false (.c (.int .i64 0)), none⟩] [0])
  (.block 0 (.loop lp_ledger_total_1)))
  (.seq (.reg [⟨some 26, .mv false (.s 4), none⟩,
    ⟨some 2, .mv false (.s 26), none⟩,
    ⟨some 3, .mv false (.c (.bool true)), none⟩] [])
  (.ret)))), true⟩
/-- bailey/ledger.fits -/
def tf_ledger_fits : TF := ⟨15, [.tmp 4],
  .seq (.reg [⟨some 4, .mv false (.c (.bool false)), none⟩] [4])
  (.seq (.reg [⟨some 8, .mv false (.s 0), none⟩,
    ⟨some 9, .mv true (.s 1), none⟩,
    ⟨some 10, .call 0 n_nums_Sum [(false, (.s 8)), (false, (.s 9))], none⟩,
    ⟨some 7, .mv true (.s 10), none⟩,
    ⟨some 11, .ext false 0 (.s 7), none⟩,
    ⟨some 12, .ext false 1 (.s 7), none⟩,
    ⟨some 5, .mv false (.s 11), none⟩,
    ⟨some 6, .mv false (.s 12), none⟩] [0, 1, 5, 7, 8, 9, 10, 11, 12])
  (.seq (.reg [⟨some 13, .mv false (.s 6), none⟩,
    ⟨some 14, .ar .eql (.s 13) (.c (.int .i64 0)), none⟩,
    ⟨some 4, .mv false (.s 14), none⟩] [])
  (.ret))), true⟩
/-- bailey/ledger.own -/
def tf_ledger_own : TF := ⟨8, [.cell 2 true 5],
  .seq (.reg [⟨some 1, .lbx true (.s 0), none⟩,
    ⟨some 2, .lal [.int .i64 0, .int .i64 0, .int .i64 0, .int .i64 0, .nils], none⟩] [0])
  (.seq (.reg [⟨some 3, .fa 4 (.s 1), none⟩,
    ⟨some 4, .ldl false false 1 1 (.s 3), none⟩,
    ⟨some 5, .call 0 n_slices_Clone_api_Hold_api_Hold [(false, (.s 4))], none⟩,
    ⟨some 6, .fa 4 (.s 1), none⟩,
    ⟨none, .stl true 1 1 (.s 6) (.s 5), none⟩] [3, 4, 5, 6])
  (.seq (.reg [⟨some 7, .ldl true true 5 1 (.s 1), none⟩,
    ⟨none, .stl true 5 2 (.s 2) (.s 7), none⟩] [])
  (.ret))), false⟩
/-- bailey/ledger.at -/
def tf_ledger_at : TF := ⟨9, [.tmp 4],
  .seq (.reg [⟨some 2, .lbx true (.s 0), none⟩,
    ⟨some 3, .hbx false (.s 1), none⟩,
    ⟨some 4, .mv false (.c (.int .i64 0)), none⟩] [0, 1, 4])
  (.seq (.reg [⟨some 5, .fa 4 (.s 2), none⟩,
    ⟨some 6, .ldl false false 1 2 (.s 5), none⟩,
    ⟨some 7, .mkf n_ledger_at_1 [(.s 3)], none⟩,
    ⟨some 8, .call 0 n_slices_IndexFunc_api_Hold_api_Hold [(false, (.s 6)), (false, (.s 7))], none⟩,
    ⟨some 4, .mv false (.s 8), none⟩] [])
  (.ret)), true⟩
/-- bailey/ledger.drop -/
def tf_ledger_drop : TF := ⟨23, [.cell 4 true 5],
  .seq (.reg [⟨some 2, .lbx true (.s 0), none⟩,
    ⟨some 4, .lal [.int .i64 0, .int .i64 0, .int .i64 0, .int .i64 0, .nils], none⟩] [0])
  (.seq (.reg [⟨some 5, .fa 2 (.s 2), none⟩,
    ⟨some 6, .ldl false false 1 2 (.s 5), none⟩,
    ⟨some 7, .fa 4 (.s 2), none⟩,
    ⟨some 8, .ldl false false 1 2 (.s 7), none⟩,
    ⟨some 9, .mv false (.s 1), none⟩,
    ⟨some 10, .ia 6 (.s 8) (.s 9), none⟩,
    ⟨some 11, .fa 2 (.s 10), none⟩,
    ⟨some 12, .ldh false false 1 (.s 11), none⟩,
    ⟨some 13, .ar .sub (.s 6) (.s 12), none⟩,
    ⟨some 14, .fa 2 (.s 2), none⟩,
    ⟨none, .stl false 1 2 (.s 14) (.s 13), none⟩] [5, 6, 7, 8, 9, 10, 11, 12, 13, 14])
  (.seq (.reg [⟨some 15, .fa 4 (.s 2), none⟩,
    ⟨some 16, .ldl false false 1 2 (.s 15), none⟩,
    ⟨some 17, .mv false (.s 1), none⟩,
    ⟨some 18, .mv false (.s 1), none⟩,
    ⟨some 19, .ar .add (.s 18) (.c (.int .i64 1)), none⟩,
    ⟨some 20, .call 0 n_slices_Delete_api_Hold_api_Hold [(false, (.s 16)), (false, (.s 17)), (false, (.s 19))], none⟩,
    ⟨some 21, .fa 4 (.s 2), none⟩,
    ⟨none, .stl true 1 2 (.s 21) (.s 20), none⟩] [1, 15, 16, 17, 18, 19, 20, 21])
  (.seq (.reg [⟨some 22, .ldl true true 5 2 (.s 2), none⟩,
    ⟨none, .stl true 5 4 (.s 4) (.s 22), none⟩] [])
  (.ret)))), false⟩
/-- bailey/baileyref19.Reserve -/
def tf_ref19_Reserve : TF := ⟨63, [.cell 4 true 5, .tmp 5, .tmp 6],
  .seq (.reg [⟨some 2, .lbx true (.s 0), none⟩,
    ⟨some 3, .lbx false (.s 1), none⟩,
    ⟨some 4, .lal [.int .i64 0, .int .i64 0, .int .i64 0, .int .i64 0, .nils], none⟩,
    ⟨some 5, .mv false (.c (.int .i64 0)), none⟩,
    ⟨some 6, .mv false (.c (.int .i64 0)), none⟩] [0, 1, 5, 6])
  (.seq (.reg [⟨some 9, .ldl false true 5 2 (.s 2), none⟩,
    ⟨some 10, .call 0 n_ref19_copied [(false, (.s 9))], none⟩,
    ⟨none, .stl true 5 2 (.s 2) (.s 10), none⟩] [9, 10])
  (.seq (.reg [⟨some 11, .fa 3 (.s 2), none⟩,
    ⟨some 12, .ldl false false 1 2 (.s 11), none⟩,
    ⟨some 13, .fa 0 (.s 3), none⟩,
    ⟨none, .stl false 1 3 (.s 13) (.s 12), none⟩] [11, 12, 13])
  (.seq (.seq (.reg [⟨some 14, .ldl false true 6 3 (.s 3), none⟩,
    ⟨some 15, .call 0 n_ref19_one [(false, (.s 14))], none⟩,
    ⟨some 16, .not (.s 15), none⟩] [14, 15])
  (.cond (.s 16) (.seq (.reg [⟨some 17, .ldl true true 5 2 (.s 2), none⟩,
    ⟨none, .stl true 5 4 (.s 4) (.s 17), none⟩,
    ⟨some 5, .mv false (.c (.int .i64 0)), none⟩,
    ⟨some 6, .mv false (.c (.int .i64 1)), none⟩] [])
  (.ret))
  (.skip)))
  (.seq (.seq (.reg [⟨some 18, .fa 4 (.s 2), none⟩,
    ⟨some 19, .ldl false false 1 2 (.s 18), none⟩,
    ⟨some 20, .len false (.s 19), none⟩,
    ⟨some 21, .ar .geq (.s 20) (.c (.int .i64 8)), none⟩,
    ⟨some 22, .mv false (.s 21), none⟩,
    ⟨some 23, .fa 3 (.s 2), (some (22, false))⟩,
    ⟨some 24, .ldl false false 1 2 (.s 23), (some (22, false))⟩,
    ⟨some 25, .ar .geq (.s 24) (.c (.int .i64 2147483648)), (some (22, false))⟩,
    ⟨some 26, .pick (.s 22) (.c (.bool true)) (.s 25), none⟩] [16, 18, 19, 20, 21, 22, 23, 24, 25])
  (.cond (.s 26) (.seq (.reg [⟨some 27, .ldl true true 5 2 (.s 2), none⟩,
    ⟨none, .stl true 5 4 (.s 4) (.s 27), none⟩,
    ⟨some 5, .mv false (.c (.int .i64 0)), none⟩,
    ⟨some 6, .mv false (.c (.int .i64 7)), none⟩] [])
  (.ret))
  (.skip)))
  (.seq (.seq (.reg [⟨some 29, .fa 0 (.s 2), none⟩,
    ⟨some 30, .ldl false false 1 2 (.s 29), none⟩,
    ⟨some 31, .fa 1 (.s 2), none⟩,
    ⟨some 32, .ldl false false 1 2 (.s 31), none⟩,
    ⟨some 33, .fa 2 (.s 2), none⟩,
    ⟨some 34, .ldl false false 1 2 (.s 33), none⟩,
    ⟨some 35, .fa 2 (.s 3), none⟩,
    ⟨some 36, .ldl false false 1 3 (.s 35), none⟩,
    ⟨some 37, .bsl false 1 3 [.int .i64 0] [(0, (.s 32)), (1, (.s 34)), (2, (.s 36))], none⟩,
    ⟨some 38, .call 0 n_ref01_Sum [(false, (.s 30)), (false, (.s 37))], none⟩,
    ⟨some 28, .mv true (.s 38), none⟩,
    ⟨some 39, .ext false 0 (.s 28), none⟩,
    ⟨some 40, .ext false 1 (.s 28), none⟩,
    ⟨some 7, .mv false (.s 39), none⟩,
    ⟨some 8, .mv false (.s 40), none⟩] [7, 26, 28, 29, 30, 31, 32, 33, 34, 35, 36, 37, 38, 39, 40])
  (.seq (.reg [⟨some 41, .mv false (.s 8), none⟩,
    ⟨some 42, .ar .neq (.s 41) (.c (.int .i64 0)), none⟩] [8, 41])
  (.cond (.s 42) (.seq (.reg [⟨some 43, .ldl true true 5 2 (.s 2), none⟩,
    ⟨none, .stl true 5 4 (.s 4) (.s 43), none⟩,
    ⟨some 5, .mv false (.c (.int .i64 0)), none⟩,
    ⟨some 6, .mv false (.c (.int .i64 14)), none⟩] [])
  (.ret))
  (.skip))))
  (.seq (.reg [⟨some 44, .fa 2 (.s 2), none⟩,
    ⟨some 45, .ldl false false 1 2 (.s 44), none⟩,
    ⟨some 46, .fa 2 (.s 3), none⟩,
    ⟨some 47, .ldl false false 1 3 (.s 46), none⟩,
    ⟨some 48, .ar .add (.s 45) (.s 47), none⟩,
    ⟨some 49, .fa 2 (.s 2), none⟩,
    ⟨none, .stl false 1 2 (.s 49) (.s 48), none⟩] [42, 44, 45, 46, 47, 48, 49])
  (.seq (.reg [⟨some 50, .fa 3 (.s 2), none⟩,
    ⟨some 51, .ldl false false 1 2 (.s 50), none⟩,
    ⟨some 52, .ar .add (.s 51) (.c (.int .i64 1)), none⟩,
    ⟨some 53, .fa 3 (.s 2), none⟩,
    ⟨none, .stl false 1 2 (.s 53) (.s 52), none⟩] [50, 51, 52, 53])
  (.seq (.reg [⟨some 54, .ldl false true 5 2 (.s 2), none⟩,
    ⟨some 55, .fa 4 (.s 2), none⟩,
    ⟨some 56, .ldl true false 1 2 (.s 55), none⟩,
    ⟨some 57, .ldl false true 6 3 (.s 3), none⟩,
    ⟨some 58, .bsl true 6 1 [.int .i64 0, .int .i64 0, .int .i64 0, .int .i64 0, .int .i64 0, .str ⟨#[]⟩] [(0, (.s 57))], none⟩,
    ⟨some 59, .app true 6 56 (.s 56) (.s 58), none⟩,
    ⟨some 60, .call 0 n_ref19_with [(false, (.s 54)), (true, (.s 59))], none⟩,
    ⟨some 61, .fa 0 (.s 3), none⟩,
    ⟨some 62, .ldl false false 1 3 (.s 61), none⟩,
    ⟨none, .stl true 5 4 (.s 4) (.s 60), none⟩,
    ⟨some 5, .mv false (.s 62), none⟩,
    ⟨some 6, .mv false (.c (.int .i64 0)), none⟩] [])
  (.ret))))))))), true⟩
/-- bailey/baileyref19.Release -/
def lp_ref19_Release_1 : TC :=
  .seq (.seq (.reg [⟨some 28, .mv false (.s 10), none⟩,
    ⟨some 29, .fa 4 (.s 2), none⟩,
    ⟨some 30, .ldl false false 1 2 (.s 29), none⟩,
    ⟨some 31, .len false (.s 30), none⟩,
    ⟨some 32, .ar .lss (.s 28) (.s 31), none⟩] [28, 29, 30, 31])
  (.cond (.s 32) (.skip)
  (.exit 0)))
  (.seq (.block 1 (.seq (.reg [⟨some 35, .fa 4 (.s 2), none⟩,
    ⟨some 36, .ldl false false 1 2 (.s 35), none⟩,
    ⟨some 37, .mv false (.s 10), none⟩,
    ⟨some 38, .ia 6 (.s 36) (.s 37), none⟩,
    ⟨some 39, .fa 0 (.s 38), none⟩,
    ⟨some 40, .ldh false false 1 (.s 39), none⟩,
    ⟨some 41, .mv false (.s 1), none⟩,
    ⟨some 42, .ar .eql (.s 40) (.s 41), none⟩,
    ⟨some 43, .mv false (.s 42), none⟩,
    ⟨some 44, .mv false (.s 9), (some (43, true))⟩,
    ⟨some 45, .not (.s 44), (some (43, true))⟩,
    ⟨some 46, .pick (.s 43) (.s 45) (.c (.bool false)), none⟩] [32, 35, 36, 37, 38, 39, 40, 41, 42, 43, 44, 45])
  (.cond (.s 46) (.reg [⟨some 9, .mv false (.c (.bool true)), none⟩] [46])
  (.reg [⟨some 47, .mv true (.s 8), none⟩,
    ⟨some 48, .fa 4 (.s 2), none⟩,
    ⟨some 49, .ldl false false 1 2 (.s 48), none⟩,
    ⟨some 50, .mv false (.s 10), none⟩,
    ⟨some 51, .ia 6 (.s 49) (.s 50), none⟩,
    ⟨some 52, .ldh false true 6 (.s 51), none⟩,
    ⟨some 53, .bsl true 6 1 [.int .i64 0, .int .i64 0, .int .i64 0, .int .i64 0, .int .i64 0, .str ⟨#[]⟩] [(0, (.s 52))], none⟩,
    ⟨some 54, .app true 6 56 (.s 47) (.s 53), none⟩,
    ⟨some 8, .mv true (.s 54), none⟩] [46, 47, 48, 49, 50, 51, 52, 53, 54]))))
  (.reg [⟨some 33, .mv false (.s 10), none⟩,
    ⟨some 34, .ar .add (.s 33) (.c (.int .i64 1)), none⟩,
    ⟨some 10, .mv false (.s 34), none⟩] [33, 34]))
def tf_ref19_Release : TF := ⟨58, [.cell 4 true 5, .tmp 5],
  .seq (.reg [⟨some 2, .lbx true (.s 0), none⟩,
    ⟨some 4, .lal [.int .i64 0, .int .i64 0, .int .i64 0, .int .i64 0, .nils], none⟩,
    ⟨some 5, .mv false (.c (.int .i64 0)), none⟩] [0, 5, 8, 9, 10, 28, 29, 30, 31, 32, 33, 34, 35, 36, 37, 38, 39, 40, 41, 42, 43, 44, 45, 46, 47, 48, 49, 50, 51, 52, 53, 54])
  (.seq (.reg [⟨some 11, .ldl false true 5 2 (.s 2), none⟩,
    ⟨some 12, .call 0 n_ref19_copied [(false, (.s 11))], none⟩,
    ⟨none, .stl true 5 2 (.s 2) (.s 12), none⟩] [11, 12])
  (.seq (.reg [⟨some 14, .ldl false true 5 2 (.s 2), none⟩,
    ⟨some 15, .mv false (.s 1), none⟩,
    ⟨some 16, .call 0 n_ref19_Find [(false, (.s 14)), (false, (.s 15))], none⟩,
    ⟨some 13, .mv true (.s 16), none⟩,
    ⟨some 17, .ext false 0 (.s 13), none⟩,
    ⟨some 18, .ext false 1 (.s 13), none⟩,
    ⟨some 6, .lal [.int .i64 0, .int .i64 0, .int .i64 0, .int .i64 0, .int .i64 0, .str ⟨#[]⟩], none⟩,
    ⟨none, .stl false 6 6 (.s 6) (.s 17), none⟩,
    ⟨some 7, .mv false (.s 18), none⟩] [13, 14, 15, 16, 17, 18])
  (.seq (.seq (.reg [⟨some 19, .mv false (.s 7), none⟩,
    ⟨some 20, .not (.s 19), none⟩] [7, 19])
  (.cond (.s 20) (.seq (.reg [⟨some 21, .ldl true true 5 2 (.s 2), none⟩,
    ⟨none, .stl true 5 4 (.s 4) (.s 21), none⟩,
    ⟨some 5, .mv false (.c (.int .i64 6)), none⟩] [])
  (.ret))
  (.skip)))
  (.seq (.reg [⟨some 22, .fa 2 (.s 2), none⟩,
    ⟨some 23, .ldl false false 1 2 (.s 22), none⟩,
    ⟨some 24, .fa 2 (.s 6), none⟩,
    ⟨some 25, .ldl false false 1 6 (.s 24), none⟩,
    ⟨some 26, .ar .sub (.s 23) (.s 25), none⟩,
    ⟨some 27, .fa 2 (.s 2), none⟩,
    ⟨none, .stl false 1 2 (.s 27) (.s 26), none⟩] [6, 20, 22, 23, 24, 25, 26, 27])
  (.seq (.reg [⟨some 8, .mv true (.c (.nils)), none⟩] [])
  (.seq (.reg [⟨some 9, .mv false (.c (.bool false)), none⟩] [])
  (.seq (.seq (.reg [⟨some 10, .mv false (.c (.int .i64 0)), none⟩] [])
  (.block 0 (.loop lp_ref19_Release_1)))
  (.seq (.reg [⟨some 55, .ldl false true 5 2 (.s 2), none⟩,
    ⟨some 56, .mv false (.s 8), none⟩,
    ⟨some 57, .call 0 n_ref19_with [(false, (.s 55)), (true, (.s 56))], none⟩,
    ⟨none, .stl true 5 4 (.s 4) (.s 57), none⟩,
    ⟨some 5, .mv false (.c (.int .i64 0)), none⟩] [])
  (.ret))))))))), true⟩
/-- bailey/ledger.Spend -/
def tf_ledger_Spend : TF := ⟨38, [.cell 6 true 5, .tmp 7],
  .seq (.reg [⟨some 3, .lbx true (.s 0), none⟩,
    ⟨some 6, .lal [.int .i64 0, .int .i64 0, .int .i64 0, .int .i64 0, .nils], none⟩,
    ⟨some 7, .mv false (.c (.int .i64 0)), none⟩] [0, 7])
  (.seq (.reg [⟨some 9, .ldl false true 5 3 (.s 3), none⟩,
    ⟨some 10, .call 0 n_ledger_own [(false, (.s 9))], none⟩,
    ⟨none, .stl true 5 3 (.s 3) (.s 10), none⟩] [9, 10])
  (.seq (.reg [⟨some 11, .ldl false true 5 3 (.s 3), none⟩,
    ⟨some 12, .mv false (.s 1), none⟩,
    ⟨some 13, .call 0 n_ledger_at [(false, (.s 11)), (false, (.s 12))], none⟩,
    ⟨some 8, .mv false (.s 13), none⟩] [1, 11, 12, 13])
  (.seq (.block 0 (.seq (.reg [⟨some 15, .mv false (.s 8), none⟩,
    ⟨some 16, .ar .lss (.s 15) (.c (.int .i64 0)), none⟩,
    ⟨some 14, .mv false (.s 16), none⟩] [15, 16])
  (.cond (.s 14) (.seq (.reg [⟨some 17, .ldl true true 5 3 (.s 3), none⟩,
    ⟨none, .stl true 5 6 (.s 6) (.s 17), none⟩,
    ⟨some 7, .mv false (.c (.int .i64 6)), none⟩] [])
  (.ret))
  (.seq (.reg [⟨some 19, .mv false (.s 2), none⟩,
    ⟨some 20, .fa 4 (.s 3), none⟩,
    ⟨some 21, .ldl false false 1 3 (.s 20), none⟩,
    ⟨some 22, .mv false (.s 8), none⟩,
    ⟨some 23, .ia 6 (.s 21) (.s 22), none⟩,
    ⟨some 24, .fa 2 (.s 23), none⟩,
    ⟨some 25, .ldh false false 1 (.s 24), none⟩,
    ⟨some 26, .call 0 n_nums_Within [(false, (.s 19)), (false, (.c (.int .i64 0))), (false, (.s 25))], none⟩,
    ⟨some 27, .not (.s 26), none⟩,
    ⟨some 18, .mv false (.s 27), none⟩] [14, 19, 20, 21, 22, 23, 24, 25, 26, 27])
  (.cond (.s 18) (.seq (.reg [⟨some 28, .ldl true true 5 3 (.s 3), none⟩,
    ⟨none, .stl true 5 6 (.s 6) (.s 28), none⟩,
    ⟨some 7, .mv false (.c (.int .i64 14)), none⟩] [])
  (.ret))
  (.skip))))))
  (.seq (.reg [⟨some 29, .ldl false true 5 3 (.s 3), none⟩,
    ⟨some 30, .mv false (.s 8), none⟩,
    ⟨some 31, .call 0 n_ledger_drop [(false, (.s 29)), (false, (.s 30))], none⟩,
    ⟨none, .stl true 5 3 (.s 3) (.s 31), none⟩] [8, 18, 29, 30, 31])
  (.seq (.reg [⟨some 32, .fa 1 (.s 3), none⟩,
    ⟨some 33, .ldl false false 1 3 (.s 32), none⟩,
    ⟨some 34, .mv false (.s 2), none⟩,
    ⟨some 35, .ar .add (.s 33) (.s 34), none⟩,
    ⟨some 36, .fa 1 (.s 3), none⟩,
    ⟨none, .stl false 1 3 (.s 36) (.s 35), none⟩] [2, 32, 33, 34, 35, 36])
  (.seq (.reg [⟨some 37, .ldl true true 5 3 (.s 3), none⟩,
    ⟨none, .stl true 5 6 (.s 6) (.s 37), none⟩,
    ⟨some 7, .mv false (.c (.int .i64 0)), none⟩] [])
  (.ret))))))), true⟩
/-- bailey/baileyref19.Spend -/
def tf_ref19_Spend : TF := ⟨39, [.cell 6 true 5, .tmp 7],
  .seq (.reg [⟨some 3, .lbx true (.s 0), none⟩,
    ⟨some 6, .lal [.int .i64 0, .int .i64 0, .int .i64 0, .int .i64 0, .nils], none⟩,
    ⟨some 7, .mv false (.c (.int .i64 0)), none⟩] [0, 7])
  (.seq (.reg [⟨some 11, .ldl false true 5 3 (.s 3), none⟩,
    ⟨some 12, .mv false (.s 1), none⟩,
    ⟨some 13, .call 0 n_ref19_Find [(false, (.s 11)), (false, (.s 12))], none⟩,
    ⟨some 10, .mv true (.s 13), none⟩,
    ⟨some 14, .ext false 0 (.s 10), none⟩,
    ⟨some 15, .ext false 1 (.s 10), none⟩,
    ⟨some 8, .lal [.int .i64 0, .int .i64 0, .int .i64 0, .int .i64 0, .int .i64 0, .str ⟨#[]⟩], none⟩,
    ⟨none, .stl false 6 8 (.s 8) (.s 14), none⟩,
    ⟨some 9, .mv false (.s 15), none⟩] [10, 11, 12, 13, 14, 15])
  (.seq (.seq (.reg [⟨some 16, .mv false (.s 9), none⟩,
    ⟨some 17, .not (.s 16), none⟩] [9, 16])
  (.cond (.s 17) (.seq (.reg [⟨some 18, .ldl false true 5 3 (.s 3), none⟩,
    ⟨some 19, .call 0 n_ref19_copied [(false, (.s 18))], none⟩,
    ⟨none, .stl true 5 6 (.s 6) (.s 19), none⟩,
    ⟨some 7, .mv false (.c (.int .i64 6)), none⟩] [])
  (.ret))
  (.skip)))
  (.seq (.seq (.reg [⟨some 20, .mv false (.s 2), none⟩,
    ⟨some 21, .fa 2 (.s 8), none⟩,
    ⟨some 22, .ldl false false 1 8 (.s 21), none⟩,
    ⟨some 23, .call 0 n_ref19_in [(false, (.s 20)), (false, (.c (.int .i64 0))), (false, (.s 22))], none⟩,
    ⟨some 24, .not (.s 23), none⟩] [8, 17, 20, 21, 22, 23])
  (.cond (.s 24) (.seq (.reg [⟨some 25, .ldl false true 5 3 (.s 3), none⟩,
    ⟨some 26, .call 0 n_ref19_copied [(false, (.s 25))], none⟩,
    ⟨none, .stl true 5 6 (.s 6) (.s 26), none⟩,
    ⟨some 7, .mv false (.c (.int .i64 14)), none⟩] [])
  (.ret))
  (.skip)))
  (.seq (.reg [⟨some 28, .ldl false true 5 3 (.s 3), none⟩,
    ⟨some 29, .mv false (.s 1), none⟩,
    ⟨some 30, .call 0 n_ref19_Release [(false, (.s 28)), (false, (.s 29))], none⟩,
    ⟨some 27, .mv true (.s 30), none⟩,
    ⟨some 31, .ext true 0 (.s 27), none⟩,
    ⟨some 32, .ext false 1 (.s 27), none⟩,
    ⟨none, .stl true 5 3 (.s 3) (.s 31), none⟩] [1, 24, 27, 28, 29, 30, 31, 32])
  (.seq (.reg [⟨some 33, .fa 1 (.s 3), none⟩,
    ⟨some 34, .ldl false false 1 3 (.s 33), none⟩,
    ⟨some 35, .mv false (.s 2), none⟩,
    ⟨some 36, .ar .add (.s 34) (.s 35), none⟩,
    ⟨some 37, .fa 1 (.s 3), none⟩,
    ⟨none, .stl false 1 3 (.s 37) (.s 36), none⟩] [2, 33, 34, 35, 36, 37])
  (.seq (.reg [⟨some 38, .ldl true true 5 3 (.s 3), none⟩,
    ⟨none, .stl true 5 6 (.s 6) (.s 38), none⟩,
    ⟨some 7, .mv false (.c (.int .i64 0)), none⟩] [])
  (.ret))))))), true⟩
/-- bailey/ledger.Free -/
def tf_ledger_Free : TF := ⟨20, [.cell 4 true 5, .tmp 5],
  .seq (.reg [⟨some 2, .lbx true (.s 0), none⟩,
    ⟨some 4, .lal [.int .i64 0, .int .i64 0, .int .i64 0, .int .i64 0, .nils], none⟩,
    ⟨some 5, .mv false (.c (.int .i64 0)), none⟩] [0, 5])
  (.seq (.reg [⟨some 6, .ldl false true 5 2 (.s 2), none⟩,
    ⟨some 7, .call 3 n_ledger_own [(false, (.s 6))], none⟩,
    ⟨none, .stl true 5 2 (.s 2) (.s 7), none⟩] [6, 7])
  (.seq (.seq (.reg [⟨some 8, .mv false (.s 1), none⟩,
    ⟨some 9, .fa 1 (.s 2), none⟩,
    ⟨some 10, .ldl false false 1 2 (.s 9), none⟩,
    ⟨some 11, .call 0 n_nums_Within [(false, (.s 8)), (false, (.c (.int .i64 0))), (false, (.s 10))], none⟩,
    ⟨some 12, .not (.s 11), none⟩] [8, 9, 10, 11])
  (.cond (.s 12) (.seq (.reg [⟨some 13, .ldl true true 5 2 (.s 2), none⟩,
    ⟨none, .stl true 5 4 (.s 4) (.s 13), none⟩,
    ⟨some 5, .mv false (.c (.int .i64 1)), none⟩] [])
  (.ret))
  (.skip)))
  (.seq (.reg [⟨some 14, .fa 1 (.s 2), none⟩,
    ⟨some 15, .ldl false false 1 2 (.s 14), none⟩,
    ⟨some 16, .mv false (.s 1), none⟩,
    ⟨some 17, .ar .sub (.s 15) (.s 16), none⟩,
    ⟨some 18, .fa 1 (.s 2), none⟩,
    ⟨none, .stl false 1 2 (.s 18) (.s 17), none⟩] [1, 12, 14, 15, 16, 17, 18])
  (.seq (.reg [⟨some 19, .ldl true true 5 2 (.s 2), none⟩,
    ⟨none, .stl true 5 4 (.s 4) (.s 19), none⟩,
    ⟨some 5, .mv false (.c (.int .i64 0)), none⟩] [])
  (.ret))))), true⟩
/-- bailey/baileyref19.Free -/
def tf_ref19_Free : TF := ⟨20, [.cell 4 true 5, .tmp 5],
  .seq (.reg [⟨some 2, .lbx true (.s 0), none⟩,
    ⟨some 4, .lal [.int .i64 0, .int .i64 0, .int .i64 0, .int .i64 0, .nils], none⟩,
    ⟨some 5, .mv false (.c (.int .i64 0)), none⟩] [0, 5])
  (.seq (.reg [⟨some 6, .ldl false true 5 2 (.s 2), none⟩,
    ⟨some 7, .call 0 n_ref19_copied [(false, (.s 6))], none⟩,
    ⟨none, .stl true 5 2 (.s 2) (.s 7), none⟩] [6, 7])
  (.seq (.seq (.reg [⟨some 8, .mv false (.s 1), none⟩,
    ⟨some 9, .fa 1 (.s 2), none⟩,
    ⟨some 10, .ldl false false 1 2 (.s 9), none⟩,
    ⟨some 11, .call 0 n_ref19_in [(false, (.s 8)), (false, (.c (.int .i64 0))), (false, (.s 10))], none⟩,
    ⟨some 12, .not (.s 11), none⟩] [8, 9, 10, 11])
  (.cond (.s 12) (.seq (.reg [⟨some 13, .ldl true true 5 2 (.s 2), none⟩,
    ⟨none, .stl true 5 4 (.s 4) (.s 13), none⟩,
    ⟨some 5, .mv false (.c (.int .i64 1)), none⟩] [])
  (.ret))
  (.skip)))
  (.seq (.reg [⟨some 14, .fa 1 (.s 2), none⟩,
    ⟨some 15, .ldl false false 1 2 (.s 14), none⟩,
    ⟨some 16, .mv false (.s 1), none⟩,
    ⟨some 17, .ar .sub (.s 15) (.s 16), none⟩,
    ⟨some 18, .fa 1 (.s 2), none⟩,
    ⟨none, .stl false 1 2 (.s 18) (.s 17), none⟩] [1, 12, 14, 15, 16, 17, 18])
  (.seq (.reg [⟨some 19, .ldl true true 5 2 (.s 2), none⟩,
    ⟨none, .stl true 5 4 (.s 4) (.s 19), none⟩,
    ⟨some 5, .mv false (.c (.int .i64 0)), none⟩] [])
  (.ret))))), true⟩
/-- bailey/ledger.Quota -/
def tf_ledger_Quota : TF := ⟨26, [.cell 4 true 5, .tmp 5],
  .seq (.reg [⟨some 2, .lbx true (.s 0), none⟩,
    ⟨some 4, .lal [.int .i64 0, .int .i64 0, .int .i64 0, .int .i64 0, .nils], none⟩,
    ⟨some 5, .mv false (.c (.int .i64 0)), none⟩] [0, 5])
  (.seq (.reg [⟨some 6, .ldl false true 5 2 (.s 2), none⟩,
    ⟨some 7, .call 3 n_ledger_own [(false, (.s 6))], none⟩,
    ⟨none, .stl true 5 2 (.s 2) (.s 7), none⟩] [6, 7])
  (.seq (.block 0 (.seq (.reg [⟨some 9, .mv false (.s 1), none⟩,
    ⟨some 10, .call 0 n_nums_Within [(false, (.s 9)), (false, (.c (.int .i64 0))), (false, (.c (.int .i64 1099511627776)))], none⟩,
    ⟨some 11, .not (.s 10), none⟩,
    ⟨some 8, .mv false (.s 11), none⟩] [9, 10, 11])
  (.cond (.s 8) (.seq (.reg [⟨some 12, .ldl true true 5 2 (.s 2), none⟩,
    ⟨none, .stl true 5 4 (.s 4) (.s 12), none⟩,
    ⟨some 5, .mv false (.c (.int .i64 1)), none⟩] [])
  (.ret))
  (.seq (.reg [⟨some 14, .mv false (.s 1), none⟩,
    ⟨some 15, .fa 1 (.s 2), none⟩,
    ⟨some 16, .ldl false false 1 2 (.s 15), none⟩,
    ⟨some 17, .fa 2 (.s 2), none⟩,
    ⟨some 18, .ldl false false 1 2 (.s 17), none⟩,
    ⟨some 19, .bsl false 1 2 [.int .i64 0] [(0, (.s 16)), (1, (.s 18))], none⟩,
    ⟨some 20, .call 0 n_ledger_fits [(false, (.s 14)), (false, (.s 19))], none⟩,
    ⟨some 21, .not (.s 20), none⟩,
    ⟨some 13, .mv false (.s 21), none⟩] [8, 14, 15, 16, 17, 18, 19, 20, 21])
  (.cond (.s 13) (.seq (.reg [⟨some 22, .ldl true true 5 2 (.s 2), none⟩,
    ⟨none, .stl true 5 4 (.s 4) (.s 22), none⟩,
    ⟨some 5, .mv false (.c (.int .i64 22)), none⟩] [])
  (.ret))
  (.skip))))))
  (.seq (.reg [⟨some 23, .mv false (.s 1), none⟩,
    ⟨some 24, .fa 0 (.s 2), none⟩,
    ⟨none, .stl false 1 2 (.s 24) (.s 23), none⟩] [1, 13, 23, 24])
  (.seq (.reg [⟨some 25, .ldl true true 5 2 (.s 2), none⟩,
    ⟨none, .stl true 5 4 (.s 4) (.s 25), none⟩,
    ⟨some 5, .mv false (.c (.int .i64 0)), none⟩] [])
  (.ret))))), true⟩
/-- bailey/baileyref19.Quota -/
def tf_ref19_Quota : TF := ⟨30, [.cell 4 true 5, .tmp 5],
  .seq (.reg [⟨some 2, .lbx true (.s 0), none⟩,
    ⟨some 4, .lal [.int .i64 0, .int .i64 0, .int .i64 0, .int .i64 0, .nils], none⟩,
    ⟨some 5, .mv false (.c (.int .i64 0)), none⟩] [0, 5])
  (.seq (.reg [⟨some 8, .ldl false true 5 2 (.s 2), none⟩,
    ⟨some 9, .call 0 n_ref19_copied [(false, (.s 8))], none⟩,
    ⟨none, .stl true 5 2 (.s 2) (.s 9), none⟩] [8, 9])
  (.seq (.seq (.reg [⟨some 10, .mv false (.s 1), none⟩,
    ⟨some 11, .call 0 n_ref19_in [(false, (.s 10)), (false, (.c (.int .i64 0))), (false, (.c (.int .i64 1099511627776)))], none⟩,
    ⟨some 12, .not (.s 11), none⟩] [10, 11])
  (.cond (.s 12) (.seq (.reg [⟨some 13, .ldl true true 5 2 (.s 2), none⟩,
    ⟨none, .stl true 5 4 (.s 4) (.s 13), none⟩,
    ⟨some 5, .mv false (.c (.int .i64 1)), none⟩] [])
  (.ret))
  (.skip)))
  (.seq (.seq (.reg [⟨some 15, .mv false (.s 1), none⟩,
    ⟨some 16, .fa 1 (.s 2), none⟩,
    ⟨some 17, .ldl false false 1 2 (.s 16), none⟩,
    ⟨some 18, .fa 2 (.s 2), none⟩,
    ⟨some 19, .ldl false false 1 2 (.s 18), none⟩,
    ⟨some 20, .bsl false 1 2 [.int .i64 0] [(0, (.s 17)), (1, (.s 19))], none⟩,
    ⟨some 21, .call 0 n_ref01_Sum [(false, (.s 15)), (false, (.s 20))], none⟩,
    ⟨some 14, .mv true (.s 21), none⟩,
    ⟨some 22, .ext false 0 (.s 14), none⟩,
    ⟨some 23, .ext false 1 (.s 14), none⟩,
    ⟨some 6, .mv false (.s 22), none⟩,
    ⟨some 7, .mv false (.s 23), none⟩] [6, 12, 14, 15, 16, 17, 18, 19, 20, 21, 22, 23])
  (.seq (.reg [⟨some 24, .mv false (.s 7), none⟩,
    ⟨some 25, .ar .neq (.s 24) (.c (.int .i64 0)), none⟩] [7, 24])
  (.cond (.s 25) (.seq (.reg [⟨some 26, .ldl true true 5 2 (.s 2), none⟩,
    ⟨none, .stl true 5 4 (.s 4) (.s 26), none⟩,
    ⟨some 5, .mv false (.c (.int .i64 22)), none⟩] [])
  (.ret))
  (.skip))))
  (.seq (.reg [⟨some 27, .mv false (.s 1), none⟩,
    ⟨some 28, .fa 0 (.s 2), none⟩,
    ⟨none, .stl false 1 2 (.s 28) (.s 27), none⟩] [1, 25, 27, 28])
  (.seq (.reg [⟨some 29, .ldl true true 5 2 (.s 2), none⟩,
    ⟨none, .stl true 5 4 (.s 4) (.s 29), none⟩,
    ⟨some 5, .mv false (.c (.int .i64 0)), none⟩] [])
  (.ret)))))), true⟩
/-- bailey/ledger.Expire -/
def lp_ledger_Expire_1 : TC :=
  .seq (.seq (.reg [⟨some 14, .mv false (.s 7), none⟩,
    ⟨some 15, .ar .geq (.s 14) (.c (.int .i64 0)), none⟩] [14])
  (.cond (.s 15) (.skip)
  (.exit 0)))
  (.seq (.block 1 (.seq (.reg [⟨some 18, .fa 4 (.s 2), none⟩,
    ⟨some 19, .ldl false false 1 2 (.s 18), none⟩,
    ⟨some 20, .mv false (.s 7), none⟩,
    ⟨some 21, .ia 6 (.s 19) (.s 20), none⟩,
    ⟨some 22, .fa 3 (.s 21), none⟩,
    ⟨some 23, .ldh false false 1 (.s 22), none⟩,
    ⟨some 24, .mv false (.s 1), none⟩,
    ⟨some 25, .ar .lss (.s 23) (.s 24), none⟩] [15, 18, 19, 20, 21, 22, 23, 24])
  (.cond (.s 25) (.seq (.reg [⟨some 26, .ldl false true 5 2 (.s 2), none⟩,
    ⟨some 27, .mv false (.s 7), none⟩,
    ⟨some 28, .call 0 n_ledger_drop [(false, (.s 26)), (false, (.s 27))], none⟩,
    ⟨none, .stl true 5 2 (.s 2) (.s 28), none⟩] [25, 26, 27, 28])
  (.reg [⟨some 29, .mv false (.s 6), none⟩,
    ⟨some 30, .ar .add (.s 29) (.c (.int .i64 1)), none⟩,
    ⟨some 6, .mv false (.s 30), none⟩] [29, 30]))
  (.skip))))
  (.reg [⟨some 16, .mv false (.s 7), none⟩,
    ⟨some 17, .ar .sub (.s 16) (.c (.int .i64 1)), none⟩,
    ⟨some 7, .mv false (.s 17), none⟩] [16, 17, 25]))
def tf_ledger_Expire : TF := ⟨33, [.cell 4 true 5, .tmp 5],
  .seq (.reg [⟨some 2, .lbx true (.s 0), none⟩,
    ⟨some 4, .lal [.int .i64 0, .int .i64 0, .int .i64 0, .int .i64 0, .nils], none⟩,
    ⟨some 5, .mv false (.c (.int .i64 0)), none⟩] [0, 5, 6, 7, 14, 15, 16, 17, 18, 19, 20, 21, 22, 23, 24, 25, 26, 27, 28, 29, 30])
  (.seq (.reg [⟨some 8, .ldl false true 5 2 (.s 2), none⟩,
    ⟨some 9, .call 0 n_ledger_own [(false, (.s 8))], none⟩,
    ⟨none, .stl true 5 2 (.s 2) (.s 9), none⟩] [8, 9])
  (.seq (.reg [⟨some 6, .mv false (.c (.int .i64 0)), none⟩] [])
  (.seq (.seq (.reg [⟨some 10, .fa 4 (.s 2), none⟩,
    ⟨some 11, .ldl false false 1 2 (.s 10), none⟩,
    ⟨some 12, .len false (.s 11), none⟩,
    ⟨some 13, .ar .sub (.s 12) (.c (.int .i64 1)), none⟩,
    ⟨some 7, .mv false (.s 13), none⟩] [10, 11, 12, 13])
  (.block 0 (.loop lp_ledger_Expire_1)))
  (.seq (.reg [⟨some 31, .ldl true true 5 2 (.s 2), none⟩,
    ⟨some 32, .mv false (.s 6), none⟩,
    ⟨none, .stl true 5 4 (.s 4) (.s 31), none⟩,
    ⟨some 5, .mv false (.s 32), none⟩] [])
  (.ret))))), true⟩
/-- bailey/baileyref19.Expire -/
def lp_ref19_Expire_1 : TC :=
  .seq (.seq (.reg [⟨some 11, .mv false (.s 8), none⟩,
    ⟨some 12, .fa 4 (.s 2), none⟩,
    ⟨some 13, .ldl false false 1 2 (.s 12), none⟩,
    ⟨some 14, .len false (.s 13), none⟩,
    ⟨some 15, .ar .lss (.s 11) (.s 14), none⟩] [11, 12, 13, 14])
  (.cond (.s 15) (.skip)
  (.exit 0)))
  (.seq (.block 1 (.seq (.reg [⟨some 18, .fa 4 (.s 2), none⟩,
    ⟨some 19, .ldl false false 1 2 (.s 18), none⟩,
    ⟨some 20, .mv false (.s 8), none⟩,
    ⟨some 21, .ia 6 (.s 19) (.s 20), none⟩,
    ⟨some 22, .fa 3 (.s 21), none⟩,
    ⟨some 23, .ldh false false 1 (.s 22), none⟩,
    ⟨some 24, .mv false (.s 1), none⟩,
    ⟨some 25, .ar .lss (.s 23) (.s 24), none⟩] [15, 18, 19, 20, 21, 22, 23, 24])
  (.cond (.s 25) (.seq (.reg [⟨some 26, .fa 2 (.s 2), none⟩,
    ⟨some 27, .ldl false false 1 2 (.s 26), none⟩,
    ⟨some 28, .fa 4 (.s 2), none⟩,
    ⟨some 29, .ldl false false 1 2 (.s 28), none⟩,
    ⟨some 30, .mv false (.s 8), none⟩,
    ⟨some 31, .ia 6 (.s 29) (.s 30), none⟩,
    ⟨some 32, .fa 2 (.s 31), none⟩,
    ⟨some 33, .ldh false false 1 (.s 32), none⟩,
    ⟨some 34, .ar .sub (.s 27) (.s 33), none⟩,
    ⟨some 35, .fa 2 (.s 2), none⟩,
    ⟨none, .stl false 1 2 (.s 35) (.s 34), none⟩] [25, 26, 27, 28, 29, 30, 31, 32, 33, 34, 35])
  (.reg [⟨some 36, .mv false (.s 7), none⟩,
    ⟨some 37, .ar .add (.s 36) (.c (.int .i64 1)), none⟩,
    ⟨some 7, .mv false (.s 37), none⟩] [36, 37]))
  (.reg [⟨some 38, .mv true (.s 6), none⟩,
    ⟨some 39, .fa 4 (.s 2), none⟩,
    ⟨some 40, .ldl false false 1 2 (.s 39), none⟩,
    ⟨some 41, .mv false (.s 8), none⟩,
    ⟨some 42, .ia 6 (.s 40) (.s 41), none⟩,
    ⟨some 43, .ldh false true 6 (.s 42), none⟩,
    ⟨some 44, .bsl true 6 1 [.int .i64 0, .int .i64 0, .int .i64 0, .int .i64 0, .int .i64 0, .str ⟨#[]⟩] [(0, (.s 43))], none⟩,
    ⟨some 45, .app true 6 56 (.s 38) (.s 44), none⟩,
    ⟨some 6, .mv true (.s 45), none⟩] [25, 38, 39, 40, 41, 42, 43, 44, 45]))))
  (.reg [⟨some 16, .mv false (.s 8), none⟩,
    ⟨some 17, .ar .add (.s 16) (.c (.int .i64 1)), none⟩,
    ⟨some 8, .mv false (.s 17), none⟩] [16, 17]))
def tf_ref19_Expire : TF := ⟨50, [.cell 4 true 5, .tmp 5],
  .seq (.reg [⟨some 2, .lbx true (.s 0), none⟩,
    ⟨some 4, .lal [.int .i64 0, .int .i64 0, .int .i64 0, .int .i64 0, .nils], none⟩,
    ⟨some 5, .mv false (.c (.int .i64 0)), none⟩] [0, 5, 6, 7, 8, 11, 12, 13, 14, 15, 16, 17, 18, 19, 20, 21, 22, 23, 24, 25, 26, 27, 28, 29, 30, 31, 32, 33, 34, 35, 36, 37, 38, 39, 40, 41, 42, 43, 44, 45])
  (.seq (.reg [⟨some 9, .ldl false true 5 2 (.s 2), none⟩,
    ⟨some 10, .call 0 n_ref19_copied [(false, (.s 9))], none⟩,
    ⟨none, .stl true 5 2 (.s 2) (.s 10), none⟩] [9, 10])
  (.seq (.reg [⟨some 6, .mv true (.c (.nils)), none⟩] [])
  (.seq (.reg [⟨some 7, .mv false (.c (.int .i64 0)), none⟩] [])
  (.seq (.seq (.reg [⟨some 8, .mv false (.c (.int .i64 0)), none⟩] [])
  (.block 0 (.loop lp_ref19_Expire_1)))
  (.seq (.reg [⟨some 46, .ldl false true 5 2 (.s 2), none⟩,
    ⟨some 47, .mv false (.s 6), none⟩,
    ⟨some 48, .call 0 n_ref19_with [(false, (.s 46)), (true, (.s 47))], none⟩,
    ⟨some 49, .mv false (.s 7), none⟩,
    ⟨none, .stl true 5 4 (.s 4) (.s 48), none⟩,
    ⟨some 5, .mv false (.s 49), none⟩] [])
  (.ret)))))), true⟩
/-- bailey/baileyref19.in -/
def tf_ref19_in : TF := ⟨15, [.tmp 6],
  .seq (.reg [⟨some 6, .mv false (.c (.bool false)), none⟩] [6])
  (.seq (.reg [⟨some 7, .mv false (.s 0), none⟩,
    ⟨some 8, .mv false (.s 1), none⟩,
    ⟨some 9, .ar .geq (.s 7) (.s 8), none⟩,
    ⟨some 10, .mv false (.s 9), none⟩,
    ⟨some 11, .mv false (.s 0), (some (10, true))⟩,
    ⟨some 12, .mv false (.s 2), (some (10, true))⟩,
    ⟨some 13, .ar .leq (.s 11) (.s 12), (some (10, true))⟩,
    ⟨some 14, .pick (.s 10) (.s 13) (.c (.bool false)), none⟩,
    ⟨some 6, .mv false (.s 14), none⟩] [])
  (.ret)), true⟩
/-- bailey/baileyref19.one -/
def tf_ref19_one : TF := ⟨31, [.tmp 2],
  .seq (.reg [⟨some 1, .lbx false (.s 0), none⟩,
    ⟨some 2, .mv false (.c (.bool false)), none⟩] [0, 2])
  (.seq (.reg [⟨some 3, .fa 0 (.s 1), none⟩,
    ⟨some 4, .ldl false false 1 1 (.s 3), none⟩,
    ⟨some 5, .call 0 n_ref19_in [(false, (.s 4)), (false, (.c (.int .i64 1))), (false, (.c (.int .i64 2147483648)))], none⟩,
    ⟨some 6, .mv false (.s 5), none⟩,
    ⟨some 7, .fa 1 (.s 1), (some (6, true))⟩,
    ⟨some 8, .ldl false false 1 1 (.s 7), (some (6, true))⟩,
    ⟨some 9, .call 0 n_ref19_in [(false, (.s 8)), (false, (.c (.int .i64 0))), (false, (.c (.int .i64 7)))], (some (6, true))⟩,
    ⟨some 10, .pick (.s 6) (.s 9) (.c (.bool false)), none⟩,
    ⟨some 11, .mv false (.s 10), none⟩,
    ⟨some 12, .fa 2 (.s 1), (some (11, true))⟩,
    ⟨some 13, .ldl false false 1 1 (.s 12), (some (11, true))⟩,
    ⟨some 14, .call 0 n_ref19_in [(false, (.s 13)), (false, (.c (.int .i64 0))), (false, (.c (.int .i64 1099511627776)))], (some (11, true))⟩,
    ⟨some 15, .pick (.s 11) (.s 14) (.c (.bool false)), none⟩,
    ⟨some 16, .mv false (.s 15), none⟩,
    ⟨some 17, .fa 3 (.s 1), (some (16, true))⟩,
    ⟨some 18, .ldl false false 1 1 (.s 17), (some (16, true))⟩,
    ⟨some 19, .call 0 n_ref19_in [(false, (.s 18)), (false, (.c (.int .i64 0))), (false, (.c (.int .i64 1099511627776)))], (some (16, true))⟩,
    ⟨some 20, .pick (.s 16) (.s 19) (.c (.bool false)), none⟩,
    ⟨some 21, .mv false (.s 20), none⟩,
    ⟨some 22, .fa 4 (.s 1), (some (21, true))⟩,
    ⟨some 23, .ldl false false 1 1 (.s 22), (some (21, true))⟩,
    ⟨some 24, .call 0 n_ref19_in [(false, (.s 23)), (false, (.c (.int .i64 0))), (false, (.c (.int .i64 1099511627776)))], (some (21, true))⟩,
    ⟨some 25, .pick (.s 21) (.s 24) (.c (.bool false)), none⟩,
    ⟨some 26, .mv false (.s 25), none⟩,
    ⟨some 27, .fa 5 (.s 1), (some (26, true))⟩,
    ⟨some 28, .ldl false false 1 1 (.s 27), (some (26, true))⟩,
    ⟨some 29, .call 0 n_ref06_Name [(false, (.s 28))], (some (26, true))⟩,
    ⟨some 30, .pick (.s 26) (.s 29) (.c (.bool false)), none⟩,
    ⟨some 2, .mv false (.s 30), none⟩] [])
  (.ret)), true⟩
/-- bailey/nums.Sum -/
def lp_nums_Sum_1 : TC :=
  .seq (.reg [⟨some 14, .ar .lss (.s 13) (.s 12), none⟩] [])
  (.seq (.cond (.s 14) (.skip)
  (.exit 0))
  (.seq (.block 1 (.seq (.reg [⟨some 15, .ia 1 (.s 11) (.s 13), none⟩,
    ⟨some 16, .ldh false false 1 (.s 15), none⟩,
    ⟨some 8, .mv false (.s 16), none⟩] [14, 15, 16])
  (.seq (.reg [⟨some 18, .mv false (.s 6), none⟩,
    ⟨some 19, .mv false (.s 8), none⟩,
    ⟨some 20, .call 0 n_nums_Add [(false, (.s 18)), (false, (.s 19))], none⟩,
    ⟨some 17, .mv true (.s 20), none⟩,
    ⟨some 21, .ext false 0 (.s 17), none⟩,
    ⟨some 22, .ext false 1 (.s 17), none⟩,
    ⟨some 9, .mv false (.s 21), none⟩,
    ⟨some 10, .mv false (.s 22), none⟩] [6, 17, 18, 19, 20, 21, 22])
  (.seq (.seq (.reg [⟨some 23, .mv false (.s 8), none⟩,
    ⟨some 24, .ar .lss (.s 23) (.c (.int .i64 0)), none⟩,
    ⟨some 25, .mv false (.s 24), none⟩,
    ⟨some 26, .mv false (.s 10), (some (25, false))⟩,
    ⟨some 27, .ar .neq (.s 26) (.c (.int .i64 0)), (some (25, false))⟩,
    ⟨some 28, .pick (.s 25) (.c (.bool true)) (.s 27), none⟩,
    ⟨some 29, .mv false (.s 28), none⟩,
    ⟨some 30, .mv false (.s 9), (some (29, false))⟩,
    ⟨some 31, .mv false (.s 0), (some (29, false))⟩,
    ⟨some 32, .ar .gtr (.s 30) (.s 31), (some (29, false))⟩,
    ⟨some 33, .pick (.s 29) (.c (.bool true)) (.s 32), none⟩] [8, 10, 23, 24, 25, 26, 27, 28, 29, 30, 31, 32])
  (.cond (.s 33) (.seq (.reg [⟨some 4, .mv false (.c (.int .i64 0)), none⟩,
    ⟨some 5, .mv false (.c (.int .i64 8)), none⟩] [])
  (.ret))
  (.skip)))
  (.reg [⟨some 34, .mv false (.s 9), none⟩,
    ⟨some 6, .mv false (.s 34), none⟩] [9, 33, 34])))))
  (.reg [⟨some 35, .ar .add (.s 13) (.c (.int .i64 1)), none⟩,
    ⟨some 13, .mv false (.s 35), none⟩] [35])))
def tf_nums_Sum : TF := ⟨37, [.tmp 4, .tmp 5],
  .seq (.reg [⟨some 4, .mv false (.c (.int .i64 0)), none⟩,
    ⟨some 5, .mv false (.c (.int .i64 0)), none⟩] [4, 5, 6, 8, 9, 10, 13, 14, 15, 16, 17, 18, 19, 20, 21, 22, 23, 24, 25, 26, 27, 28, 29, 30, 31, 32, 33, 34, 35])
  (.seq (.reg [⟨some 6, .mv false (.c (.int .i64 0)), none⟩] [])
  (.seq (.seq (.reg [⟨some 11, .mv true (.s 1), none⟩,
    ⟨some 12, .len false (.s 11), none⟩,
    ⟨some 13, .mv false (.c (.int .i64 0)), none⟩] [1])
  (.block 0 (.loop lp_nums_Sum_1)))
  (.seq (.reg [⟨some 36, .mv false (.s 6), none⟩,
    ⟨some 4, .mv false (.s 36), none⟩,
    ⟨some 5, .mv false (.c (.int .i64 0)), none⟩] [])
  (.ret)))), true⟩
/-- bailey/pack.room -/
def tf_pack_room : TF := ⟨17, [.tmp 4],
  .seq (.reg [⟨some 4, .mv true (.c (.nils)), none⟩] [4])
  (.seq (.reg [⟨some 6, .mv false (.s 0), none⟩,
    ⟨some 7, .len false (.s 6), none⟩,
    ⟨some 8, .mv false (.s 0), none⟩,
    ⟨some 9, .len false (.s 8), none⟩,
    ⟨some 10, .mv false (.s 1), none⟩,
    ⟨some 11, .ar .add (.s 9) (.s 10), none⟩,
    ⟨some 12, .mks false 1 1 [.int .u8 0] (.s 7) (.s 11), none⟩,
    ⟨some 5, .mv true (.s 12), none⟩] [1, 6, 7, 8, 9, 10, 11, 12])
  (.seq (.reg [⟨some 13, .mv false (.s 5), none⟩,
    ⟨some 14, .mv false (.s 0), none⟩,
    ⟨some 15, .cpy 1 (.s 13) (.s 14), none⟩] [0, 13, 14, 15])
  (.seq (.reg [⟨some 16, .mv false (.s 5), none⟩,
    ⟨some 4, .mv true (.s 16), none⟩] [])
  (.ret)))), true⟩
/-- bailey/baileyref02.copied -/
def tf_ref02_copied : TF := ⟨5, [.tmp 2],
  .seq (.reg [⟨some 2, .mv true (.c (.nils)), none⟩] [2])
  (.seq (.reg [⟨some 3, .mv true (.s 0), none⟩,
    ⟨some 4, .app true 1 1 (.c (.nils)) (.s 3), none⟩,
    ⟨some 2, .mv true (.s 4), none⟩] [])
  (.ret)), true⟩
/-- (*bailey/pack.Reader).Num -/
def lp_pack_Reader_Num_1 : TC :=
  .seq (.reg [⟨some 17, .ar .lss (.s 16) (.s 15), none⟩] [])
  (.seq (.cond (.s 17) (.skip)
  (.exit 0))
  (.seq (.block 1 (.seq (.reg [⟨some 18, .ia 1 (.s 14) (.s 16), none⟩,
    ⟨some 19, .ldh false false 1 (.s 18), none⟩,
    ⟨some 7, .mv false (.s 19), none⟩] [17, 18, 19])
  (.reg [⟨some 20, .mv false (.s 5), none⟩,
    ⟨some 21, .ar .shl (.s 20) (.c (.int .u64 7)), none⟩,
    ⟨some 22, .mv false (.s 7), none⟩,
    ⟨some 23, .ar .andNot (.s 22) (.c (.int .u8 128)), none⟩,
    ⟨some 24, .cvi .i64 (.s 23), none⟩,
    ⟨some 25, .ar .or (.s 21) (.s 24), none⟩,
    ⟨some 5, .mv false (.s 25), none⟩] [7, 20, 21, 22, 23, 24, 25])))
  (.reg [⟨some 26, .ar .add (.s 16) (.c (.int .i64 1)), none⟩,
    ⟨some 16, .mv false (.s 26), none⟩] [26])))
def jn_pack_Reader_Num_2 : TC :=
  .seq (.seq (.reg [⟨some 32, .mv false (.s 0), none⟩,
    ⟨some 33, .call 0 n_pack_Reader_works [(false, (.s 32))], none⟩,
    ⟨some 34, .not (.s 33), none⟩] [0, 29, 32, 33])
  (.cond (.s 34) (.seq (.reg [⟨some 4, .mv false (.c (.int .i64 0)), none⟩] [])
  (.ret))
  (.skip)))
  (.seq (.reg [⟨some 35, .mv false (.s 5), none⟩,
    ⟨some 4, .mv false (.s 35), none⟩] [])
  (.ret))
def tf_pack_Reader_Num : TF := ⟨36, [.tmp 4],
  .seq (.reg [⟨some 4, .mv false (.c (.int .i64 0)), none⟩] [4, 5, 7, 16, 17, 18, 19, 20, 21, 22, 23, 24, 25, 26])
  (.seq (.seq (.reg [⟨some 8, .mv false (.s 0), none⟩,
    ⟨some 9, .call 0 n_pack_Reader_works [(false, (.s 8))], none⟩,
    ⟨some 10, .not (.s 9), none⟩] [8, 9])
  (.cond (.s 10) (.seq (.reg [⟨some 4, .mv false (.c (.int .i64 0)), none⟩] [])
  (.ret))
  (.skip)))
  (.seq (.reg [⟨some 5, .mv false (.c (.int .i64 0)), none⟩] [10])
  (.seq (.seq (.reg [⟨some 11, .mv false (.s 0), none⟩,
    ⟨some 12, .mv false (.s 0), none⟩,
    ⟨some 13, .call 0 n_pack_Reader_width [(false, (.s 12))], none⟩,
    ⟨some 14, .call 0 n_pack_Reader_take [(false, (.s 11)), (false, (.s 13))], none⟩,
    ⟨some 15, .len false (.s 14), none⟩,
    ⟨some 16, .mv false (.c (.int .i64 0)), none⟩] [11, 12, 13])
  (.block 0 (.loop lp_pack_Reader_Num_1)))
  (.seq (.seq (.reg [⟨some 27, .mv false (.s 5), none⟩,
    ⟨some 28, .mv false (.s 1), none⟩,
    ⟨some 29, .ar .gtr (.s 27) (.s 28), none⟩] [1, 14, 15, 16, 17, 27, 28])
  (.cond (.s 29) (.reg [⟨some 30, .mv false (.s 0), none⟩,
    ⟨some 31, .call 0 n_pack_Reader_Fail [(false, (.s 30)), (false, (.c (.int .i64 5)))], none⟩] [29, 30, 31])
  (.skip)))
  (jn_pack_Reader_Num_2))))), true⟩
/-- bailey/ledger.hold -/
def tf_ledger_hold : TF := ⟨16, [.cell 2 true 6],
  .seq (.reg [⟨some 2, .lal [.int .i64 0, .int .i64 0, .int .i64 0, .int .i64 0, .int .i64 0, .str ⟨#[]⟩], none⟩] [])
  (.seq (.reg [⟨some 3, .mv false (.s 0), none⟩,
    ⟨some 4, .call 0 n_pack_Reader_Num [(false, (.s 3)), (false, (.c (.int .i64 2147483648)))], none⟩,
    ⟨some 5, .mv false (.s 0), none⟩,
    ⟨some 6, .call 0 n_pack_Reader_Num [(false, (.s 5)), (false, (.c (.int .i64 7)))], none⟩,
    ⟨some 7, .mv false (.s 0), none⟩,
    ⟨some 8, .call 0 n_pack_Reader_Num [(false, (.s 7)), (false, (.c (.int .i64 1099511627776)))], none⟩,
    ⟨some 9, .mv false (.s 0), none⟩,
    ⟨some 10, .call 0 n_pack_Reader_Num [(false, (.s 9)), (false, (.c (.int .i64 1099511627776)))], none⟩,
    ⟨some 11, .mv false (.s 0), none⟩,
    ⟨some 12, .call 0 n_pack_Reader_Num [(false, (.s 11)), (false, (.c (.int .i64 1099511627776)))], none⟩,
    ⟨some 13, .mv false (.s 0), none⟩,
    ⟨some 14, .call 0 n_pack_Reader_Text [(false, (.s 13)), (false, (.c (.int .i64 16)))], none⟩,
    ⟨some 15, .build [.int .i64 0, .int .i64 0, .int .i64 0, .int .i64 0, .int .i64 0, .str ⟨#[]⟩] [(0, 1, (.s 4)), (1, 1, (.s 6)), (2, 1, (.s 8)), (3, 1, (.s 10)), (4, 1, (.s 12)), (5, 1, (.s 14))], none⟩,
    ⟨none, .stl false 6 2 (.s 2) (.s 15), none⟩] [])
  (.ret)), true⟩
/-- (*bailey/pack.Reader).Fail -/
def tf_pack_Reader_Fail : TF := ⟨18, [],
  .seq (.seq (.reg [⟨some 4, .mv false (.s 0), none⟩,
    ⟨some 5, .call 0 n_pack_Reader_works [(false, (.s 4))], none⟩,
    ⟨some 6, .not (.s 5), none⟩,
    ⟨some 7, .mv false (.s 6), none⟩,
    ⟨some 8, .mv false (.s 1), (some (7, false))⟩,
    ⟨some 9, .ar .eql (.s 8) (.c (.int .i64 0)), (some (7, false))⟩,
    ⟨some 10, .pick (.s 7) (.c (.bool true)) (.s 9), none⟩] [4, 5, 6, 7, 8, 9])
  (.cond (.s 10) (.ret)
  (.skip)))
  (.reg [⟨some 11, .mv false (.s 0), none⟩,
    ⟨some 12, .mv false (.s 0), none⟩,
    ⟨some 13, .mv false (.s 1), none⟩,
    ⟨some 14, .nilc (.s 11), none⟩,
    ⟨some 15, .fa 1 (.s 14), none⟩,
    ⟨none, .sth false 1 (.s 15) (.s 13), none⟩,
    ⟨some 16, .nilc (.s 12), none⟩,
    ⟨some 17, .fa 0 (.s 16), none⟩,
    ⟨none, .sth false 1 (.s 17) (.c (.nils)), none⟩] []), true⟩
/-- (*bailey/baileyref02.Reader).Num -/
def lp_ref02_Reader_Num_1 : TC :=
  .seq (.seq (.reg [⟨some 7, .mv false (.s 0), none⟩,
    ⟨some 8, .nilc (.s 7), none⟩,
    ⟨some 9, .fa 1 (.s 8), none⟩,
    ⟨some 10, .ldh false false 1 (.s 9), none⟩,
    ⟨some 11, .ar .eql (.s 10) (.c (.int .i64 0)), none⟩] [7, 8, 9, 10])
  (.cond (.s 11) (.skip)
  (.exit 0)))
  (.seq (.block 1 (.seq (.reg [⟨some 14, .mv false (.s 6), none⟩,
    ⟨some 15, .mv false (.s 0), none⟩,
    ⟨some 16, .nilc (.s 15), none⟩,
    ⟨some 17, .fa 0 (.s 16), none⟩,
    ⟨some 18, .ldh false false 1 (.s 17), none⟩,
    ⟨some 19, .len false (.s 18), none⟩,
    ⟨some 20, .ar .geq (.s 14) (.s 19), none⟩] [11, 14, 15, 16, 17, 18, 19])
  (.cond (.s 20) (.reg [⟨some 21, .mv false (.s 0), none⟩,
    ⟨some 22, .call 0 n_ref02_Reader_Fail [(false, (.s 21)), (false, (.c (.int .i64 4)))], none⟩] [20, 21, 22])
  (.seq (.reg [⟨some 23, .mv false (.s 6), none⟩,
    ⟨some 24, .ar .eql (.s 23) (.c (.int .i64 0)), none⟩,
    ⟨some 25, .mv false (.s 24), none⟩,
    ⟨some 26, .mv false (.s 0), (some (25, true))⟩,
    ⟨some 27, .nilc (.s 26), (some (25, true))⟩,
    ⟨some 28, .fa 0 (.s 27), (some (25, true))⟩,
    ⟨some 29, .ldh false false 1 (.s 28), (some (25, true))⟩,
    ⟨some 30, .ia 1 (.s 29) (.c (.int .i64 0)), (some (25, true))⟩,
    ⟨some 31, .ldh false false 1 (.s 30), (some (25, true))⟩,
    ⟨some 32, .ar .eql (.s 31) (.c (.int .u8 128)), (some (25, true))⟩,
    ⟨some 33, .pick (.s 25) (.s 32) (.c (.bool false)), none⟩,
    ⟨some 34, .mv false (.s 33), none⟩,
    ⟨some 35, .mv false (.s 6), (some (34, false))⟩,
    ⟨some 36, .ar .eql (.s 35) (.c (.int .i64 8)), (some (34, false))⟩,
    ⟨some 37, .mv false (.s 36), (some (34, false))⟩,
    ⟨some 38, .mv false (.s 0), (some (37, true))⟩,
    ⟨some 39, .nilc (.s 38), (some (37, true))⟩,
    ⟨some 40, .fa 0 (.s 39), (some (37, true))⟩,
    ⟨some 41, .ldh false false 1 (.s 40), (some (37, true))⟩,
    ⟨some 42, .ia 1 (.s 41) (.c (.int .i64 8)), (some (37, true))⟩,
    ⟨some 43, .ldh false false 1 (.s 42), (some (37, true))⟩,
    ⟨some 44, .ar .geq (.s 43) (.c (.int .u8 128)), (some (37, true))⟩,
    ⟨some 45, .pick (.s 37) (.s 44) (.c (.bool false)), (some (34, false))⟩,
    ⟨some 46, .pick (.s 34) (.c (.bool true)) (.s 45), none⟩] [20, 23, 24, 25, 26, 27, 28, 29, 30, 31, 32, 33, 34, 35, 36, 37, 38, 39, 40, 41, 42, 43, 44, 45])
  (.cond (.s 46) (.reg [⟨some 47, .mv false (.s 0), none⟩,
    ⟨some 48, .call 0 n_ref02_Reader_Fail [(false, (.s 47)), (false, (.c (.int .i64 3)))], none⟩] [46, 47, 48])
  (.seq (.reg [⟨some 49, .mv false (.s 5), none⟩,
    ⟨some 50, .ar .mul (.s 49) (.c (.int .i64 128)), none⟩,
    ⟨some 51, .mv false (.s 0), none⟩,
    ⟨some 52, .nilc (.s 51), none⟩,
    ⟨some 53, .fa 0 (.s 52), none⟩,
    ⟨some 54, .ldh false false 1 (.s 53), none⟩,
    ⟨some 55, .mv false (.s 6), none⟩,
    ⟨some 56, .ia 1 (.s 54) (.s 55), none⟩,
    ⟨some 57, .ldh false false 1 (.s 56), none⟩,
    ⟨some 58, .ar .rem (.s 57) (.c (.int .u8 128)), none⟩,
    ⟨some 59, .cvi .i64 (.s 58), none⟩,
    ⟨some 60, .ar .add (.s 50) (.s 59), none⟩,
    ⟨some 5, .mv false (.s 60), none⟩] [46, 49, 50, 51, 52, 53, 54, 55, 56, 57, 58, 59, 60])
  (.seq (.reg [⟨some 61, .mv false (.s 0), none⟩,
    ⟨some 62, .nilc (.s 61), none⟩,
    ⟨some 63, .fa 0 (.s 62), none⟩,
    ⟨some 64, .ldh false false 1 (.s 63), none⟩,
    ⟨some 65, .mv false (.s 6), none⟩,
    ⟨some 66, .ia 1 (.s 64) (.s 65), none⟩,
    ⟨some 67, .ldh false false 1 (.s 66), none⟩,
    ⟨some 68, .ar .lss (.s 67) (.c (.int .u8 128)), none⟩] [61, 62, 63, 64, 65, 66, 67])
  (.cond (.s 68) (.seq (.reg [⟨some 69, .mv false (.s 0), none⟩,
    ⟨some 70, .mv false (.s 0), none⟩,
    ⟨some 71, .nilc (.s 70), none⟩,
    ⟨some 72, .fa 0 (.s 71), none⟩,
    ⟨some 73, .ldh false false 1 (.s 72), none⟩,
    ⟨some 74, .mv false (.s 6), none⟩,
    ⟨some 75, .ar .add (.s 74) (.c (.int .i64 1)), none⟩,
    ⟨some 76, .slc 1 (.s 73) (some (.s 75)) none none, none⟩,
    ⟨some 77, .nilc (.s 69), none⟩,
    ⟨some 78, .fa 0 (.s 77), none⟩,
    ⟨none, .sth true 1 (.s 78) (.s 76), none⟩] [6, 68, 69, 70, 71, 72, 73, 74, 75, 76, 77, 78])
  (.seq (.seq (.reg [⟨some 79, .mv false (.s 5), none⟩,
    ⟨some 80, .mv false (.s 1), none⟩,
    ⟨some 81, .ar .gtr (.s 79) (.s 80), none⟩] [1, 79, 80])
  (.cond (.s 81) (.seq (.reg [⟨some 82, .mv false (.s 0), none⟩,
    ⟨some 83, .call 0 n_ref02_Reader_Fail [(false, (.s 82)), (false, (.c (.int .i64 5)))], none⟩] [])
  (.seq (.reg [⟨some 4, .mv false (.c (.int .i64 0)), none⟩] [])
  (.ret)))
  (.skip)))
  (.seq (.reg [⟨some 84, .mv false (.s 5), none⟩,
    ⟨some 4, .mv false (.s 84), none⟩] [])
  (.ret))))
  (.skip)))))))))
  (.reg [⟨some 12, .mv false (.s 6), none⟩,
    ⟨some 13, .ar .add (.s 12) (.c (.int .i64 1)), none⟩,
    ⟨some 6, .mv false (.s 13), none⟩] [12, 13, 68]))
def tf_ref02_Reader_Num : TF := ⟨85, [.tmp 4],
  .seq (.reg [⟨some 4, .mv false (.c (.int .i64 0)), none⟩] [4, 5, 6, 7, 8, 9, 10, 11, 12, 13, 14, 15, 16, 17, 18, 19, 20, 21, 22, 23, 24, 25, 26, 27, 28, 29, 30, 31, 32, 33, 34, 35, 36, 37, 38, 39, 40, 41, 42, 43, 44, 45, 46, 47, 48, 49, 50, 51, 52, 53, 54, 55, 56, 57, 58, 59, 60, 61, 62, 63, 64, 65, 66, 67, 68, 69, 70, 71, 72, 73, 74, 75, 76, 77, 78, 79, 80, 81, 82, 83, 84])
  (.seq (.reg [⟨some 5, .mv false (.c (.int .i64 0)), none⟩] [])
  (.seq (.seq (.reg [⟨some 6, .mv false (.c (.int .i64 0)), none⟩] [])
  (.block 0 (.loop lp_ref02_Reader_Num_1)))
  (.seq (.reg [⟨some 4, .mv false (.c (.int .i64 0)), none⟩] [])
  (.ret)))), true⟩
/-- (*bailey/baileyref02.Reader).Text -/
def jn_ref02_Reader_Text_1 : TC :=
  .seq (.seq (.reg [⟨some 26, .mv false (.s 0), none⟩,
    ⟨some 27, .nilc (.s 26), none⟩,
    ⟨some 28, .fa 1 (.s 27), none⟩,
    ⟨some 29, .ldh false false 1 (.s 28), none⟩,
    ⟨some 30, .ar .neq (.s 29) (.c (.int .i64 0)), none⟩] [23, 26, 27, 28, 29])
  (.cond (.s 30) (.seq (.reg [⟨some 4, .mv false (.c (.str ⟨#[]⟩)), none⟩] [])
  (.ret))
  (.skip)))
  (.seq (.reg [⟨some 31, .mv false (.s 0), none⟩,
    ⟨some 32, .nilc (.s 31), none⟩,
    ⟨some 33, .fa 0 (.s 32), none⟩,
    ⟨some 34, .ldh false false 1 (.s 33), none⟩,
    ⟨some 35, .mv false (.s 5), none⟩,
    ⟨some 36, .slc 1 (.s 34) none (some (.s 35)) none, none⟩,
    ⟨some 37, .cvs (.s 36), none⟩,
    ⟨some 6, .mv false (.s 37), none⟩] [30, 31, 32, 33, 34, 35, 36, 37])
  (.seq (.reg [⟨some 38, .mv false (.s 0), none⟩,
    ⟨some 39, .mv false (.s 0), none⟩,
    ⟨some 40, .nilc (.s 39), none⟩,
    ⟨some 41, .fa 0 (.s 40), none⟩,
    ⟨some 42, .ldh false false 1 (.s 41), none⟩,
    ⟨some 43, .mv false (.s 5), none⟩,
    ⟨some 44, .slc 1 (.s 42) (some (.s 43)) none none, none⟩,
    ⟨some 45, .nilc (.s 38), none⟩,
    ⟨some 46, .fa 0 (.s 45), none⟩,
    ⟨none, .sth true 1 (.s 46) (.s 44), none⟩] [0, 5, 38, 39, 40, 41, 42, 43, 44, 45, 46])
  (.seq (.reg [⟨some 47, .mv false (.s 6), none⟩,
    ⟨some 4, .mv false (.s 47), none⟩] [])
  (.ret))))
def tf_ref02_Reader_Text : TF := ⟨48, [.tmp 4],
  .seq (.reg [⟨some 4, .mv false (.c (.str ⟨#[]⟩)), none⟩] [4])
  (.seq (.reg [⟨some 7, .mv false (.s 0), none⟩,
    ⟨some 8, .mv false (.s 1), none⟩,
    ⟨some 9, .call 0 n_ref02_Reader_Num [(false, (.s 7)), (false, (.s 8))], none⟩,
    ⟨some 5, .mv false (.s 9), none⟩] [1, 7, 8, 9])
  (.seq (.seq (.reg [⟨some 10, .mv false (.s 0), none⟩,
    ⟨some 11, .nilc (.s 10), none⟩,
    ⟨some 12, .fa 1 (.s 11), none⟩,
    ⟨some 13, .ldh false false 1 (.s 12), none⟩,
    ⟨some 14, .ar .eql (.s 13) (.c (.int .i64 0)), none⟩,
    ⟨some 15, .mv false (.s 14), none⟩,
    ⟨some 16, .mv false (.s 5), (some (15, true))⟩,
    ⟨some 17, .mv false (.s 0), (some (15, true))⟩,
    ⟨some 18, .nilc (.s 17), (some (15, true))⟩,
    ⟨some 19, .fa 0 (.s 18), (some (15, true))⟩,
    ⟨some 20, .ldh false false 1 (.s 19), (some (15, true))⟩,
    ⟨some 21, .len false (.s 20), (some (15, true))⟩,
    ⟨some 22, .ar .gtr (.s 16) (.s 21), (some (15, true))⟩,
    ⟨some 23, .pick (.s 15) (.s 22) (.c (.bool false)), none⟩] [10, 11, 12, 13, 14, 15, 16, 17, 18, 19, 20, 21, 22])
  (.cond (.s 23) (.reg [⟨some 24, .mv false (.s 0), none⟩,
    ⟨some 25, .call 0 n_ref02_Reader_Fail [(false, (.s 24)), (false, (.c (.int .i64 4)))], none⟩] [23, 24, 25])
  (.skip)))
  (jn_ref02_Reader_Text_1))), true⟩
/-- (*bailey/baileyref02.Reader).Fail -/
def jn_ref02_Reader_Fail_1 : TC :=
  .seq (.reg [⟨some 13, .mv false (.s 0), none⟩,
    ⟨some 14, .nilc (.s 13), none⟩,
    ⟨some 15, .fa 1 (.s 14), none⟩,
    ⟨some 16, .ldh false false 1 (.s 15), none⟩,
    ⟨some 17, .ar .neq (.s 16) (.c (.int .i64 0)), none⟩] [1, 8, 13, 14, 15, 16])
  (.cond (.s 17) (.reg [⟨some 18, .mv false (.s 0), none⟩,
    ⟨some 19, .nilc (.s 18), none⟩,
    ⟨some 20, .fa 0 (.s 19), none⟩,
    ⟨none, .sth false 1 (.s 20) (.c (.nils)), none⟩] [])
  (.skip))
def tf_ref02_Reader_Fail : TF := ⟨21, [],
  .seq (.seq (.reg [⟨some 4, .mv false (.s 0), none⟩,
    ⟨some 5, .nilc (.s 4), none⟩,
    ⟨some 6, .fa 1 (.s 5), none⟩,
    ⟨some 7, .ldh false false 1 (.s 6), none⟩,
    ⟨some 8, .ar .eql (.s 7) (.c (.int .i64 0)), none⟩] [4, 5, 6, 7])
  (.cond (.s 8) (.reg [⟨some 9, .mv false (.s 0), none⟩,
    ⟨some 10, .mv false (.s 1), none⟩,
    ⟨some 11, .nilc (.s 9), none⟩,
    ⟨some 12, .fa 1 (.s 11), none⟩,
    ⟨none, .sth false 1 (.s 12) (.s 10), none⟩] [1, 8, 9, 10, 11, 12])
  (.skip)))
  (jn_ref02_Reader_Fail_1), true⟩
/-- bailey/ledger.put -/
def lp_ledger_put_1 : TC :=
  .seq (.reg [⟨some 10, .ar .lss (.s 9) (.s 8), none⟩] [])
  (.seq (.cond (.s 10) (.skip)
  (.exit 0))
  (.seq (.block 1 (.seq (.reg [⟨some 11, .ia 1 (.s 7) (.s 9), none⟩,
    ⟨some 12, .ldh false false 1 (.s 11), none⟩,
    ⟨some 6, .mv false (.s 12), none⟩] [10, 11, 12])
  (.reg [⟨some 13, .mv false (.s 0), none⟩,
    ⟨some 14, .mv false (.s 6), none⟩,
    ⟨some 15, .call 0 n_pack_Num [(false, (.s 13)), (false, (.s 14))], none⟩,
    ⟨some 0, .mv true (.s 15), none⟩] [6, 13, 14, 15])))
  (.reg [⟨some 16, .ar .add (.s 9) (.c (.int .i64 1)), none⟩,
    ⟨some 9, .mv false (.s 16), none⟩] [16])))
def tf_ledger_put : TF := ⟨18, [.tmp 4],
  .seq (.reg [⟨some 4, .mv true (.c (.nils)), none⟩] [4, 6, 9, 10, 11, 12, 13, 14, 15, 16])
  (.seq (.seq (.reg [⟨some 7, .mv true (.s 1), none⟩,
    ⟨some 8, .len false (.s 7), none⟩,
    ⟨some 9, .mv false (.c (.int .i64 0)), none⟩] [1])
  (.block 0 (.loop lp_ledger_put_1)))
  (.seq (.reg [⟨some 17, .mv false (.s 0), none⟩,
    ⟨some 4, .mv true (.s 17), none⟩] [])
  (.ret))), true⟩
/-- bailey/pack.Text -/
def tf_pack_Text : TF := ⟨15, [.tmp 4],
  .seq (.reg [⟨some 4, .mv true (.c (.nils)), none⟩] [4])
  (.seq (.reg [⟨some 5, .mv true (.s 0), none⟩,
    ⟨some 6, .mv false (.s 1), none⟩,
    ⟨some 7, .len true (.s 6), none⟩,
    ⟨some 8, .ar .add (.c (.int .i64 9)) (.s 7), none⟩,
    ⟨some 9, .call 0 n_pack_room [(false, (.s 5)), (false, (.s 8))], none⟩,
    ⟨some 10, .mv false (.s 1), none⟩,
    ⟨some 11, .len true (.s 10), none⟩,
    ⟨some 12, .call 0 n_pack_put [(true, (.s 9)), (false, (.s 11))], none⟩,
    ⟨some 13, .mv false (.s 1), none⟩,
    ⟨some 14, .app true 1 1 (.s 12) (.s 13), none⟩,
    ⟨some 4, .mv true (.s 14), none⟩] [])
  (.ret)), true⟩
/-- bailey/baileyref02.Num -/
def lp_ref02_Num_1 : TC :=
  .seq (.seq (.reg [⟨some 9, .mv false (.s 6), none⟩,
    ⟨some 10, .ar .add (.s 9) (.c (.int .i64 1)), none⟩,
    ⟨some 11, .mv false (.s 5), none⟩,
    ⟨some 12, .len false (.s 11), none⟩,
    ⟨some 13, .ar .lss (.s 10) (.s 12), none⟩] [9, 10, 11, 12])
  (.cond (.s 13) (.skip)
  (.exit 0)))
  (.seq (.block 1 (.reg [⟨some 16, .mv false (.s 5), none⟩,
    ⟨some 17, .mv false (.s 6), none⟩,
    ⟨some 18, .mv false (.s 5), none⟩,
    ⟨some 19, .mv false (.s 6), none⟩,
    ⟨some 20, .ia 1 (.s 18) (.s 19), none⟩,
    ⟨some 21, .ldh false false 1 (.s 20), none⟩,
    ⟨some 22, .ar .add (.s 21) (.c (.int .u8 128)), none⟩,
    ⟨some 23, .ia 1 (.s 16) (.s 17), none⟩,
    ⟨none, .sth false 1 (.s 23) (.s 22), none⟩] [13, 16, 17, 18, 19, 20, 21, 22, 23]))
  (.reg [⟨some 14, .mv false (.s 6), none⟩,
    ⟨some 15, .ar .add (.s 14) (.c (.int .i64 1)), none⟩,
    ⟨some 6, .mv false (.s 15), none⟩] [14, 15]))
def tf_ref02_Num : TF := ⟨28, [.tmp 4],
  .seq (.reg [⟨some 4, .mv true (.c (.nils)), none⟩] [4, 6, 9, 10, 11, 12, 13, 14, 15, 16, 17, 18, 19, 20, 21, 22, 23])
  (.seq (.reg [⟨some 7, .mv false (.s 1), none⟩,
    ⟨some 8, .call 0 n_ref02_groups [(false, (.s 7))], none⟩,
    ⟨some 5, .mv true (.s 8), none⟩] [1, 7, 8])
  (.seq (.seq (.reg [⟨some 6, .mv false (.c (.int .i64 0)), none⟩] [])
  (.block 0 (.loop lp_ref02_Num_1)))
  (.seq (.reg [⟨some 24, .mv true (.s 0), none⟩,
    ⟨some 25, .call 0 n_ref02_copied [(false, (.s 24))], none⟩,
    ⟨some 26, .mv false (.s 5), none⟩,
    ⟨some 27, .app true 1 1 (.s 25) (.s 26), none⟩,
    ⟨some 4, .mv true (.s 27), none⟩] [])
  (.ret)))), true⟩
/-- bailey/baileyref02.Text -/
def tf_ref02_Text : TF := ⟨11, [.tmp 4],
  .seq (.reg [⟨some 4, .mv true (.c (.nils)), none⟩] [4])
  (.seq (.reg [⟨some 5, .mv true (.s 0), none⟩,
    ⟨some 6, .mv false (.s 1), none⟩,
    ⟨some 7, .len true (.s 6), none⟩,
    ⟨some 8, .call 0 n_ref02_Num [(false, (.s 5)), (false, (.s 7))], none⟩,
    ⟨some 9, .mv false (.s 1), none⟩,
    ⟨some 10, .app true 1 1 (.s 8) (.s 9), none⟩,
    ⟨some 4, .mv true (.s 10), none⟩] [])
  (.ret)), true⟩
/-- (*bailey/pack.Reader).works -/
def tf_pack_Reader_works : TF := ⟨18, [.tmp 2],
  .seq (.reg [⟨some 2, .mv false (.c (.bool false)), none⟩] [2])
  (.seq (.reg [⟨some 3, .mv false (.s 0), none⟩,
    ⟨some 4, .eqp true (.s 3) (.c (.nilp)), none⟩,
    ⟨some 5, .mv false (.s 4), none⟩,
    ⟨some 6, .mv false (.s 0), (some (5, true))⟩,
    ⟨some 7, .nilc (.s 6), (some (5, true))⟩,
    ⟨some 8, .fa 2 (.s 7), (some (5, true))⟩,
    ⟨some 9, .ldh false false 1 (.s 8), (some (5, true))⟩,
    ⟨some 10, .pick (.s 5) (.s 9) (.c (.bool false)), none⟩,
    ⟨some 11, .mv false (.s 10), none⟩,
    ⟨some 12, .mv false (.s 0), (some (11, true))⟩,
    ⟨some 13, .nilc (.s 12), (some (11, true))⟩,
    ⟨some 14, .fa 1 (.s 13), (some (11, true))⟩,
    ⟨some 15, .ldh false false 1 (.s 14), (some (11, true))⟩,
    ⟨some 16, .ar .eql (.s 15) (.c (.int .i64 0)), (some (11, true))⟩,
    ⟨some 17, .pick (.s 11) (.s 16) (.c (.bool false)), none⟩,
    ⟨some 2, .mv false (.s 17), none⟩] [])
  (.ret)), true⟩
/-- bailey/pack.Num -/
def tf_pack_Num : TF := ⟨9, [.tmp 4],
  .seq (.reg [⟨some 4, .mv true (.c (.nils)), none⟩] [4])
  (.seq (.reg [⟨some 5, .mv true (.s 0), none⟩,
    ⟨some 6, .call 0 n_pack_room [(false, (.s 5)), (false, (.c (.int .i64 9)))], none⟩,
    ⟨some 7, .mv false (.s 1), none⟩,
    ⟨some 8, .call 0 n_pack_put [(true, (.s 6)), (false, (.s 7))], none⟩,
    ⟨some 4, .mv true (.s 8), none⟩] [])
  (.ret)), true⟩
/-- bailey/caveat.Name -/
def lp_caveat_Name_1 : TC :=
  .seq (.reg [⟨some 11, .ar .lss (.s 10) (.s 9), none⟩] [])
  (.seq (.cond (.s 11) (.skip)
  (.exit 0))
  (.seq (.block 1 (.seq (.reg [⟨some 12, .mv false (.s 10), none⟩,
    ⟨some 3, .mv false (.s 12), none⟩] [11, 12])
  (.seq (.reg [⟨some 13, .mv false (.s 0), none⟩,
    ⟨some 14, .mv false (.s 3), none⟩,
    ⟨some 15, .sx (.s 13) (.s 14), none⟩,
    ⟨some 16, .call 0 n_caveat_letter [(false, (.s 15))], none⟩,
    ⟨some 17, .not (.s 16), none⟩] [3, 13, 14, 15, 16])
  (.cond (.s 17) (.seq (.reg [⟨some 2, .mv false (.c (.bool false)), none⟩] [])
  (.ret))
  (.skip)))))
  (.reg [⟨some 18, .ar .add (.s 10) (.c (.int .i64 1)), none⟩,
    ⟨some 10, .mv false (.s 18), none⟩] [17, 18])))
def tf_caveat_Name : TF := ⟨19, [.tmp 2],
  .seq (.reg [⟨some 2, .mv false (.c (.bool false)), none⟩] [2, 3, 10, 11, 12, 13, 14, 15, 16, 17, 18])
  (.seq (.seq (.reg [⟨some 4, .mv false (.s 0), none⟩,
    ⟨some 5, .len true (.s 4), none⟩,
    ⟨some 6, .call 0 n_nums_Within [(false, (.s 5)), (false, (.c (.int .i64 1))), (false, (.c (.int .i64 16)))], none⟩,
    ⟨some 7, .not (.s 6), none⟩] [4, 5, 6])
  (.cond (.s 7) (.seq (.reg [⟨some 2, .mv false (.c (.bool false)), none⟩] [])
  (.ret))
  (.skip)))
  (.seq (.seq (.reg [⟨some 8, .mv false (.s 0), none⟩,
    ⟨some 9, .len true (.s 8), none⟩,
    ⟨some 10, .mv false (.c (.int .i64 0)), none⟩] [7, 8])
  (.block 0 (.loop lp_caveat_Name_1)))
  (.seq (.reg [⟨some 2, .mv false (.c (.bool true)), none⟩] [])
  (.ret)))), true⟩
/-- bailey/nums.Add -/
def tf_nums_Add : TF := ⟨23, [.tmp 4, .tmp 5],
  .seq (.reg [⟨some 4, .mv false (.c (.int .i64 0)), none⟩,
    ⟨some 5, .mv false (.c (.int .i64 0)), none⟩] [4, 5])
  (.seq (.reg [⟨some 7, .mv false (.s 0), none⟩,
    ⟨some 8, .mv false (.s 1), none⟩,
    ⟨some 9, .ar .add (.s 7) (.s 8), none⟩,
    ⟨some 6, .mv false (.s 9), none⟩] [7, 8, 9])
  (.seq (.seq (.reg [⟨some 10, .mv false (.s 0), none⟩,
    ⟨some 11, .ar .lss (.s 10) (.c (.int .i64 0)), none⟩,
    ⟨some 12, .mv false (.s 1), none⟩,
    ⟨some 13, .ar .lss (.s 12) (.c (.int .i64 0)), none⟩,
    ⟨some 14, .eqb false (.s 11) (.s 13), none⟩,
    ⟨some 15, .mv false (.s 14), none⟩,
    ⟨some 16, .mv false (.s 6), (some (15, true))⟩,
    ⟨some 17, .ar .lss (.s 16) (.c (.int .i64 0)), (some (15, true))⟩,
    ⟨some 18, .mv false (.s 0), (some (15, true))⟩,
    ⟨some 19, .ar .lss (.s 18) (.c (.int .i64 0)), (some (15, true))⟩,
    ⟨some 20, .eqb true (.s 17) (.s 19), (some (15, true))⟩,
    ⟨some 21, .pick (.s 15) (.s 20) (.c (.bool false)), none⟩] [0, 1, 10, 11, 12, 13, 14, 15, 16, 17, 18, 19, 20])
  (.cond (.s 21) (.seq (.reg [⟨some 4, .mv false (.c (.int .i64 0)), none⟩,
    ⟨some 5, .mv false (.c (.int .i64 8)), none⟩] [])
  (.ret))
  (.skip)))
  (.seq (.reg [⟨some 22, .mv false (.s 6), none⟩,
    ⟨some 4, .mv false (.s 22), none⟩,
    ⟨some 5, .mv false (.c (.int .i64 0)), none⟩] [])
  (.ret)))), true⟩
/-- slices.IndexFunc[[]bailey/api.Hold,bailey/api.Hold] -/
def lp_slices_IndexFunc_api_Hold_api_Hold_1 : TC :=
  .seq (.reg [⟨some 9, .ar .lss (.s 8) (.s 7), none⟩] [])
  (.seq (.cond (.s 9) (.skip)
  (.exit 0))
  (.seq (.block 1 (.seq (.reg [⟨some 10, .mv false (.s 8), none⟩,
    ⟨some 5, .mv false (.s 10), none⟩] [9, 10])
  (.seq (.reg [⟨some 11, .mv false (.s 1), none⟩,
    ⟨some 12, .mv false (.s 0), none⟩,
    ⟨some 13, .mv false (.s 5), none⟩,
    ⟨some 14, .ia 6 (.s 12) (.s 13), none⟩,
    ⟨some 15, .ldh false true 6 (.s 14), none⟩,
    ⟨some 16, .callv 0 (.s 11) [(false, (.s 15))], none⟩] [11, 12, 13, 14, 15])
  (.cond (.s 16) (.seq (.reg [⟨some 17, .mv false (.s 5), none⟩,
    ⟨some 4, .mv false (.s 17), none⟩] [])
  (.ret))
  (.skip)))))
  (.reg [⟨some 18, .ar .add (.s 8) (.c (.int .i64 1)), none⟩,
    ⟨some 8, .mv false (.s 18), none⟩] [5, 16, 18])))
def tf_slices_IndexFunc_api_Hold_api_Hold : TF := ⟨19, [.tmp 4],
  .seq (.reg [⟨some 4, .mv false (.c (.int .i64 0)), none⟩] [4, 5, 8, 9, 10, 11, 12, 13, 14, 15, 16, 17, 18])
  (.seq (.seq (.reg [⟨some 6, .mv false (.s 0), none⟩,
    ⟨some 7, .len false (.s 6), none⟩,
    ⟨some 8, .mv false (.c (.int .i64 0)), none⟩] [6])
  (.block 0 (.loop lp_slices_IndexFunc_api_Hold_api_Hold_1)))
  (.seq (.reg [⟨some 4, .mv false (.c (.int .i64 (-1))), none⟩] [])
  (.ret))), true⟩
/-- bailey/ledger.at$1 -/
def tf_ledger_at_1 : TF := ⟨8, [.tmp 3],
  .seq (.reg [⟨some 2, .lbx false (.s 0), none⟩,
    ⟨some 3, .mv false (.c (.bool false)), none⟩] [0, 3])
  (.seq (.reg [⟨some 4, .fa 0 (.s 2), none⟩,
    ⟨some 5, .ldl false false 1 2 (.s 4), none⟩,
    ⟨some 6, .ldh false false 1 (.s 1), none⟩,
    ⟨some 7, .ar .eql (.s 5) (.s 6), none⟩,
    ⟨some 3, .mv false (.s 7), none⟩] [])
  (.ret)), true⟩
/-- slices.Delete[[]bailey/api.Hold,bailey/api.Hold] -/
def tf_slices_Delete_api_Hold_api_Hold : TF := ⟨33, [.tmp 6],
  .seq (.reg [⟨some 6, .mv true (.c (.nils)), none⟩] [6])
  (.seq (.reg [⟨some 8, .mv false (.s 0), none⟩,
    ⟨some 9, .mv false (.s 1), none⟩,
    ⟨some 10, .mv false (.s 2), none⟩,
    ⟨some 11, .mv false (.s 0), none⟩,
    ⟨some 12, .len false (.s 11), none⟩,
    ⟨some 13, .slc 6 (.s 8) (some (.s 9)) (some (.s 10)) (some (.s 12)), none⟩] [8, 9, 10, 11, 12, 13])
  (.seq (.seq (.reg [⟨some 14, .mv false (.s 1), none⟩,
    ⟨some 15, .mv false (.s 2), none⟩,
    ⟨some 16, .ar .eql (.s 14) (.s 15), none⟩] [14, 15])
  (.cond (.s 16) (.seq (.reg [⟨some 17, .mv false (.s 0), none⟩,
    ⟨some 6, .mv true (.s 17), none⟩] [])
  (.ret))
  (.skip)))
  (.seq (.reg [⟨some 18, .mv false (.s 0), none⟩,
    ⟨some 19, .len false (.s 18), none⟩,
    ⟨some 7, .mv false (.s 19), none⟩] [16, 18, 19])
  (.seq (.reg [⟨some 20, .mv false (.s 0), none⟩,
    ⟨some 21, .mv false (.s 1), none⟩,
    ⟨some 22, .slx 6 (.s 20) none (some (.s 21)), none⟩,
    ⟨some 23, .mv false (.s 0), none⟩,
    ⟨some 24, .mv false (.s 2), none⟩,
    ⟨some 25, .slx 6 (.s 23) (some (.s 24)) none, none⟩,
    ⟨some 26, .apr true 6 56 (.s 22) (.s 25), none⟩,
    ⟨some 0, .mv true (.s 26), none⟩] [1, 2, 20, 21, 22, 23, 24, 25, 26])
  (.seq (.reg [⟨some 27, .mv false (.s 0), none⟩,
    ⟨some 28, .mv false (.s 0), none⟩,
    ⟨some 29, .len false (.s 28), none⟩,
    ⟨some 30, .mv false (.s 7), none⟩,
    ⟨some 31, .slx 6 (.s 27) (some (.s 29)) (some (.s 30)), none⟩,
    ⟨none, .clr [.int .i64 0, .int .i64 0, .int .i64 0, .int .i64 0, .int .i64 0, .str ⟨#[]⟩] (.s 31), none⟩] [7, 27, 28, 29, 30, 31])
  (.seq (.reg [⟨some 32, .mv false (.s 0), none⟩,
    ⟨some 6, .mv true (.s 32), none⟩] [])
  (.ret))))))), true⟩
/-- bailey/baileyref19.copied -/
def tf_ref19_copied : TF := ⟨8, [.cell 2 true 5],
  .seq (.reg [⟨some 1, .lbx true (.s 0), none⟩,
    ⟨some 2, .lal [.int .i64 0, .int .i64 0, .int .i64 0, .int .i64 0, .nils], none⟩] [0])
  (.seq (.reg [⟨some 3, .ldl false true 5 1 (.s 1), none⟩,
    ⟨some 4, .fa 4 (.s 1), none⟩,
    ⟨some 5, .ldl false false 1 1 (.s 4), none⟩,
    ⟨some 6, .app true 6 56 (.c (.nils)) (.s 5), none⟩,
    ⟨some 7, .call 0 n_ref19_with [(false, (.s 3)), (true, (.s 6))], none⟩,
    ⟨none, .stl true 5 2 (.s 2) (.s 7), none⟩] [])
  (.ret)), true⟩
/-- bailey/baileyref01.Sum -/
def lp_ref01_Sum_1 : TC :=
  .seq (.seq (.reg [⟨some 8, .mv false (.s 7), none⟩,
    ⟨some 9, .mv false (.s 1), none⟩,
    ⟨some 10, .len false (.s 9), none⟩,
    ⟨some 11, .ar .lss (.s 8) (.s 10), none⟩] [8, 9, 10])
  (.cond (.s 11) (.skip)
  (.exit 0)))
  (.seq (.block 1 (.seq (.seq (.reg [⟨some 14, .mv false (.s 1), none⟩,
    ⟨some 15, .mv false (.s 7), none⟩,
    ⟨some 16, .ia 1 (.s 14) (.s 15), none⟩,
    ⟨some 17, .ldh false false 1 (.s 16), none⟩,
    ⟨some 18, .ar .lss (.s 17) (.c (.int .i64 0)), none⟩,
    ⟨some 19, .mv false (.s 18), none⟩,
    ⟨some 20, .mv false (.s 1), (some (19, false))⟩,
    ⟨some 21, .mv false (.s 7), (some (19, false))⟩,
    ⟨some 22, .ia 1 (.s 20) (.s 21), (some (19, false))⟩,
    ⟨some 23, .ldh false false 1 (.s 22), (some (19, false))⟩,
    ⟨some 24, .mv false (.s 6), (some (19, false))⟩,
    ⟨some 25, .ar .sub (.c (.int .i64 9223372036854775807)) (.s 24), (some (19, false))⟩,
    ⟨some 26, .ar .gtr (.s 23) (.s 25), (some (19, false))⟩,
    ⟨some 27, .pick (.s 19) (.c (.bool true)) (.s 26), none⟩,
    ⟨some 28, .mv false (.s 27), none⟩,
    ⟨some 29, .mv false (.s 6), (some (28, false))⟩,
    ⟨some 30, .mv false (.s 1), (some (28, false))⟩,
    ⟨some 31, .mv false (.s 7), (some (28, false))⟩,
    ⟨some 32, .ia 1 (.s 30) (.s 31), (some (28, false))⟩,
    ⟨some 33, .ldh false false 1 (.s 32), (some (28, false))⟩,
    ⟨some 34, .ar .add (.s 29) (.s 33), (some (28, false))⟩,
    ⟨some 35, .mv false (.s 0), (some (28, false))⟩,
    ⟨some 36, .ar .gtr (.s 34) (.s 35), (some (28, false))⟩,
    ⟨some 37, .pick (.s 28) (.c (.bool true)) (.s 36), none⟩] [11, 14, 15, 16, 17, 18, 19, 20, 21, 22, 23, 24, 25, 26, 27, 28, 29, 30, 31, 32, 33, 34, 35, 36])
  (.cond (.s 37) (.seq (.reg [⟨some 4, .mv false (.c (.int .i64 0)), none⟩,
    ⟨some 5, .mv false (.c (.int .i64 8)), none⟩] [])
  (.ret))
  (.skip)))
  (.reg [⟨some 38, .mv false (.s 6), none⟩,
    ⟨some 39, .mv false (.s 1), none⟩,
    ⟨some 40, .mv false (.s 7), none⟩,
    ⟨some 41, .ia 1 (.s 39) (.s 40), none⟩,
    ⟨some 42, .ldh false false 1 (.s 41), none⟩,
    ⟨some 43, .ar .add (.s 38) (.s 42), none⟩,
    ⟨some 6, .mv false (.s 43), none⟩] [37, 38, 39, 40, 41, 42, 43])))
  (.reg [⟨some 12, .mv false (.s 7), none⟩,
    ⟨some 13, .ar .add (.s 12) (.c (.int .i64 1)), none⟩,
    ⟨some 7, .mv false (.s 13), none⟩] [12, 13]))
def tf_ref01_Sum : TF := ⟨45, [.tmp 4, .tmp 5],
  .seq (.reg [⟨some 4, .mv false (.c (.int .i64 0)), none⟩,
    ⟨some 5, .mv false (.c (.int .i64 0)), none⟩] [4, 5, 6, 7, 8, 9, 10, 11, 12, 13, 14, 15, 16, 17, 18, 19, 20, 21, 22, 23, 24, 25, 26, 27, 28, 29, 30, 31, 32, 33, 34, 35, 36, 37, 38, 39, 40, 41, 42, 43])
  (.seq (.reg [⟨some 6, .mv false (.c (.int .i64 0)), none⟩] [])
  (.seq (.seq (.reg [⟨some 7, .mv false (.c (.int .i64 0)), none⟩] [])
  (.block 0 (.loop lp_ref01_Sum_1)))
  (.seq (.reg [⟨some 44, .mv false (.s 6), none⟩,
    ⟨some 4, .mv false (.s 44), none⟩,
    ⟨some 5, .mv false (.c (.int .i64 0)), none⟩] [])
  (.ret)))), true⟩
/-- bailey/baileyref19.with -/
def tf_ref19_with : TF := ⟨8, [.cell 4 true 5],
  .seq (.reg [⟨some 2, .lbx true (.s 0), none⟩,
    ⟨some 4, .lal [.int .i64 0, .int .i64 0, .int .i64 0, .int .i64 0, .nils], none⟩] [0])
  (.seq (.reg [⟨some 5, .mv true (.s 1), none⟩,
    ⟨some 6, .fa 4 (.s 2), none⟩,
    ⟨none, .stl true 1 2 (.s 6) (.s 5), none⟩] [1, 5, 6])
  (.seq (.reg [⟨some 7, .ldl true true 5 2 (.s 2), none⟩,
    ⟨none, .stl true 5 4 (.s 4) (.s 7), none⟩] [])
  (.ret))), true⟩
/-- bailey/baileyref06.Name -/
def lp_ref06_Name_1 : TC :=
  .seq (.seq (.reg [⟨some 13, .mv false (.s 3), none⟩,
    ⟨some 14, .mv false (.s 0), none⟩,
    ⟨some 15, .len true (.s 14), none⟩,
    ⟨some 16, .ar .lss (.s 13) (.s 15), none⟩] [13, 14, 15])
  (.cond (.s 16) (.skip)
  (.exit 0)))
  (.seq (.block 1 (.seq (.reg [⟨some 19, .mv false (.s 0), none⟩,
    ⟨some 20, .mv false (.s 3), none⟩,
    ⟨some 21, .sx (.s 19) (.s 20), none⟩,
    ⟨some 4, .mv false (.s 21), none⟩] [16, 19, 20, 21])
  (.seq (.reg [⟨some 22, .mv false (.s 4), none⟩,
    ⟨some 23, .ar .geq (.s 22) (.c (.int .u8 97)), none⟩,
    ⟨some 24, .mv false (.s 23), none⟩,
    ⟨some 25, .mv false (.s 4), (some (24, true))⟩,
    ⟨some 26, .ar .leq (.s 25) (.c (.int .u8 122)), (some (24, true))⟩,
    ⟨some 27, .pick (.s 24) (.s 26) (.c (.bool false)), none⟩,
    ⟨some 28, .mv false (.s 27), none⟩,
    ⟨some 29, .mv false (.s 4), (some (28, false))⟩,
    ⟨some 30, .ar .geq (.s 29) (.c (.int .u8 48)), (some (28, false))⟩,
    ⟨some 31, .mv false (.s 30), (some (28, false))⟩,
    ⟨some 32, .mv false (.s 4), (some (31, true))⟩,
    ⟨some 33, .ar .leq (.s 32) (.c (.int .u8 57)), (some (31, true))⟩,
    ⟨some 34, .pick (.s 31) (.s 33) (.c (.bool false)), (some (28, false))⟩,
    ⟨some 35, .pick (.s 28) (.c (.bool true)) (.s 34), none⟩,
    ⟨some 36, .mv false (.s 35), none⟩,
    ⟨some 37, .mv false (.s 4), (some (36, false))⟩,
    ⟨some 38, .ar .eql (.s 37) (.c (.int .u8 45)), (some (36, false))⟩,
    ⟨some 39, .pick (.s 36) (.c (.bool true)) (.s 38), none⟩,
    ⟨some 40, .mv false (.s 39), none⟩,
    ⟨some 41, .mv false (.s 4), (some (40, false))⟩,
    ⟨some 42, .ar .eql (.s 41) (.c (.int .u8 95)), (some (40, false))⟩,
    ⟨some 43, .pick (.s 40) (.c (.bool true)) (.s 42), none⟩,
    ⟨some 44, .not (.s 43), none⟩] [4, 22, 23, 24, 25, 26, 27, 28, 29, 30, 31, 32, 33, 34, 35, 36, 37, 38, 39, 40, 41, 42, 43])
  (.cond (.s 44) (.seq (.reg [⟨some 2, .mv false (.c (.bool false)), none⟩] [])
  (.ret))
  (.skip)))))
  (.reg [⟨some 17, .mv false (.s 3), none⟩,
    ⟨some 18, .ar .add (.s 17) (.c (.int .i64 1)), none⟩,
    ⟨some 3, .mv false (.s 18), none⟩] [17, 18, 44]))
def tf_ref06_Name : TF := ⟨45, [.tmp 2],
  .seq (.reg [⟨some 2, .mv false (.c (.bool false)), none⟩] [2, 3, 4, 13, 14, 15, 16, 17, 18, 19, 20, 21, 22, 23, 24, 25, 26, 27, 28, 29, 30, 31, 32, 33, 34, 35, 36, 37, 38, 39, 40, 41, 42, 43, 44])
  (.seq (.seq (.reg [⟨some 5, .mv false (.s 0), none⟩,
    ⟨some 6, .len true (.s 5), none⟩,
    ⟨some 7, .ar .lss (.s 6) (.c (.int .i64 1)), none⟩,
    ⟨some 8, .mv false (.s 7), none⟩,
    ⟨some 9, .mv false (.s 0), (some (8, false))⟩,
    ⟨some 10, .len true (.s 9), (some (8, false))⟩,
    ⟨some 11, .ar .gtr (.s 10) (.c (.int .i64 16)), (some (8, false))⟩,
    ⟨some 12, .pick (.s 8) (.c (.bool true)) (.s 11), none⟩] [5, 6, 7, 8, 9, 10, 11])
  (.cond (.s 12) (.seq (.reg [⟨some 2, .mv false (.c (.bool false)), none⟩] [])
  (.ret))
  (.skip)))
  (.seq (.seq (.reg [⟨some 3, .mv false (.c (.int .i64 0)), none⟩] [12])
  (.block 0 (.loop lp_ref06_Name_1)))
  (.seq (.reg [⟨some 2, .mv false (.c (.bool true)), none⟩] [])
  (.ret)))), true⟩
/-- (*bailey/pack.Reader).take -/
def tf_pack_Reader_take : TF := ⟨32, [.tmp 4],
  .seq (.reg [⟨some 4, .mv true (.c (.nils)), none⟩] [4])
  (.seq (.seq (.reg [⟨some 6, .mv false (.s 1), none⟩,
    ⟨some 7, .mv false (.s 0), none⟩,
    ⟨some 8, .nilc (.s 7), none⟩,
    ⟨some 9, .fa 0 (.s 8), none⟩,
    ⟨some 10, .ldh false false 1 (.s 9), none⟩,
    ⟨some 11, .len false (.s 10), none⟩,
    ⟨some 12, .ar .gtr (.s 6) (.s 11), none⟩] [6, 7, 8, 9, 10, 11])
  (.cond (.s 12) (.seq (.reg [⟨some 13, .mv false (.s 0), none⟩,
    ⟨some 14, .call 0 n_pack_Reader_Fail [(false, (.s 13)), (false, (.c (.int .i64 4)))], none⟩] [])
  (.seq (.reg [⟨some 4, .mv true (.c (.nils)), none⟩] [])
  (.ret)))
  (.skip)))
  (.seq (.reg [⟨some 15, .mv false (.s 0), none⟩,
    ⟨some 16, .nilc (.s 15), none⟩,
    ⟨some 17, .fa 0 (.s 16), none⟩,
    ⟨some 18, .ldh false false 1 (.s 17), none⟩,
    ⟨some 19, .mv false (.s 1), none⟩,
    ⟨some 20, .mv false (.s 1), none⟩,
    ⟨some 21, .slc 1 (.s 18) none (some (.s 19)) (some (.s 20)), none⟩,
    ⟨some 5, .mv true (.s 21), none⟩] [12, 15, 16, 17, 18, 19, 20, 21])
  (.seq (.reg [⟨some 22, .mv false (.s 0), none⟩,
    ⟨some 23, .mv false (.s 0), none⟩,
    ⟨some 24, .nilc (.s 23), none⟩,
    ⟨some 25, .fa 0 (.s 24), none⟩,
    ⟨some 26, .ldh false false 1 (.s 25), none⟩,
    ⟨some 27, .mv false (.s 1), none⟩,
    ⟨some 28, .slc 1 (.s 26) (some (.s 27)) none none, none⟩,
    ⟨some 29, .nilc (.s 22), none⟩,
    ⟨some 30, .fa 0 (.s 29), none⟩,
    ⟨none, .sth true 1 (.s 30) (.s 28), none⟩] [0, 1, 22, 23, 24, 25, 26, 27, 28, 29, 30])
  (.seq (.reg [⟨some 31, .mv false (.s 5), none⟩,
    ⟨some 4, .mv true (.s 31), none⟩] [])
  (.ret))))), true⟩
/-- (*bailey/pack.Reader).width -/
def jn_pack_Reader_width_1 : TC :=
  .cond (.s 15) (.seq (.reg [⟨some 28, .mv false (.s 0), none⟩,
    ⟨some 29, .call 0 n_pack_Reader_Fail [(false, (.s 28)), (false, (.c (.int .i64 3)))], none⟩] [])
  (.seq (.reg [⟨some 2, .mv false (.c (.int .i64 0)), none⟩] [])
  (.ret)))
  (.seq (.reg [⟨some 31, .mv false (.s 4), none⟩,
    ⟨some 32, .ar .lss (.s 31) (.c (.int .u8 128)), none⟩,
    ⟨some 30, .mv false (.s 32), none⟩] [4, 15, 31, 32])
  (.cond (.s 30) (.seq (.reg [⟨some 33, .mv false (.s 3), none⟩,
    ⟨some 34, .ar .add (.s 33) (.c (.int .i64 1)), none⟩,
    ⟨some 2, .mv false (.s 34), none⟩] [])
  (.ret))
  (.skip)))
def lp_pack_Reader_width_2 : TC :=
  .seq (.reg [⟨some 11, .ar .lss (.s 10) (.s 9), none⟩] [])
  (.seq (.cond (.s 11) (.skip)
  (.exit 0))
  (.seq (.block 1 (.seq (.reg [⟨some 12, .mv false (.s 10), none⟩,
    ⟨some 13, .ia 1 (.s 8) (.s 10), none⟩,
    ⟨some 14, .ldh false false 1 (.s 13), none⟩,
    ⟨some 3, .mv false (.s 12), none⟩,
    ⟨some 4, .mv false (.s 14), none⟩] [11, 12, 13, 14])
  (.block 2 (.seq (.seq (.reg [⟨some 16, .mv false (.s 3), none⟩,
    ⟨some 17, .ar .eql (.s 16) (.c (.int .i64 0)), none⟩,
    ⟨some 18, .mv false (.s 17), none⟩,
    ⟨some 19, .mv false (.s 4), (some (18, true))⟩,
    ⟨some 20, .ar .eql (.s 19) (.c (.int .u8 128)), (some (18, true))⟩,
    ⟨some 21, .pick (.s 18) (.s 20) (.c (.bool false)), none⟩,
    ⟨some 15, .mv false (.s 21), none⟩] [16, 17, 18, 19, 20, 21])
  (.cond (.s 15) (.skip)
  (.reg [⟨some 22, .mv false (.s 3), none⟩,
    ⟨some 23, .ar .eql (.s 22) (.c (.int .i64 8)), none⟩,
    ⟨some 24, .mv false (.s 23), none⟩,
    ⟨some 25, .mv false (.s 4), (some (24, true))⟩,
    ⟨some 26, .ar .geq (.s 25) (.c (.int .u8 128)), (some (24, true))⟩,
    ⟨some 27, .pick (.s 24) (.s 26) (.c (.bool false)), none⟩,
    ⟨some 15, .mv false (.s 27), none⟩] [22, 23, 24, 25, 26, 27])))
  (jn_pack_Reader_width_1)))))
  (.reg [⟨some 35, .ar .add (.s 10) (.c (.int .i64 1)), none⟩,
    ⟨some 10, .mv false (.s 35), none⟩] [3, 30, 35])))
def tf_pack_Reader_width : TF := ⟨38, [.tmp 2],
  .seq (.reg [⟨some 2, .mv false (.c (.int .i64 0)), none⟩] [2, 3, 4, 10, 11, 12, 13, 14, 15, 16, 17, 18, 19, 20, 21, 22, 23, 24, 25, 26, 27, 28, 29, 30, 31, 32, 33, 34, 35])
  (.seq (.seq (.reg [⟨some 5, .mv false (.s 0), none⟩,
    ⟨some 6, .nilc (.s 5), none⟩,
    ⟨some 7, .fa 0 (.s 6), none⟩,
    ⟨some 8, .ldh false false 1 (.s 7), none⟩,
    ⟨some 9, .len false (.s 8), none⟩,
    ⟨some 10, .mv false (.c (.int .i64 0)), none⟩] [5, 6, 7])
  (.block 0 (.loop lp_pack_Reader_width_2)))
  (.seq (.reg [⟨some 36, .mv false (.s 0), none⟩,
    ⟨some 37, .call 0 n_pack_Reader_Fail [(false, (.s 36)), (false, (.c (.int .i64 4)))], none⟩] [])
  (.seq (.reg [⟨some 2, .mv false (.c (.int .i64 0)), none⟩] [])
  (.ret)))), true⟩
/-- (*bailey/pack.Reader).Text -/
def tf_pack_Reader_Text : TF := ⟨16, [.tmp 4],
  .seq (.reg [⟨some 4, .mv false (.c (.str ⟨#[]⟩)), none⟩] [4])
  (.seq (.reg [⟨some 6, .mv false (.s 0), none⟩,
    ⟨some 7, .mv false (.s 1), none⟩,
    ⟨some 8, .call 0 n_pack_Reader_Num [(false, (.s 6)), (false, (.s 7))], none⟩,
    ⟨some 5, .mv false (.s 8), none⟩] [1, 6, 7, 8])
  (.seq (.seq (.reg [⟨some 9, .mv false (.s 0), none⟩,
    ⟨some 10, .call 0 n_pack_Reader_works [(false, (.s 9))], none⟩,
    ⟨some 11, .not (.s 10), none⟩] [9, 10])
  (.cond (.s 11) (.seq (.reg [⟨some 4, .mv false (.c (.str ⟨#[]⟩)), none⟩] [])
  (.ret))
  (.skip)))
  (.seq (.reg [⟨some 12, .mv false (.s 0), none⟩,
    ⟨some 13, .mv false (.s 5), none⟩,
    ⟨some 14, .call 0 n_pack_Reader_take [(false, (.s 12)), (false, (.s 13))], none⟩,
    ⟨some 15, .cvs (.s 14), none⟩,
    ⟨some 4, .mv false (.s 15), none⟩] [])
  (.ret)))), true⟩
/-- bailey/pack.put -/
def lp_pack_put_1 : TC :=
  .seq (.seq (.reg [⟨some 12, .mv false (.s 5), none⟩,
    ⟨some 13, .ar .gtr (.s 12) (.c (.int .i64 0)), none⟩] [12])
  (.cond (.s 13) (.skip)
  (.exit 0)))
  (.seq (.block 1 (.reg [⟨some 16, .mv true (.s 0), none⟩,
    ⟨some 17, .mv false (.s 1), none⟩,
    ⟨some 18, .mv false (.s 5), none⟩,
    ⟨some 19, .ar .shr (.s 17) (.s 18), none⟩,
    ⟨some 20, .cvi .u8 (.s 19), none⟩,
    ⟨some 21, .ar .or (.s 20) (.c (.int .u8 128)), none⟩,
    ⟨some 22, .bsl false 1 1 [.int .u8 0] [(0, (.s 21))], none⟩,
    ⟨some 23, .app true 1 1 (.s 16) (.s 22), none⟩,
    ⟨some 0, .mv true (.s 23), none⟩] [13, 16, 17, 18, 19, 20, 21, 22, 23]))
  (.reg [⟨some 14, .mv false (.s 5), none⟩,
    ⟨some 15, .ar .sub (.s 14) (.c (.int .i64 7)), none⟩,
    ⟨some 5, .mv false (.s 15), none⟩] [14, 15]))
def tf_pack_put : TF := ⟨30, [.tmp 4],
  .seq (.reg [⟨some 4, .mv true (.c (.nils)), none⟩] [4, 5, 12, 13, 14, 15, 16, 17, 18, 19, 20, 21, 22, 23])
  (.seq (.reg [⟨some 6, .mv false (.s 1), none⟩,
    ⟨some 7, .mx (.s 6) (.c (.int .i64 0)), none⟩,
    ⟨some 1, .mv false (.s 7), none⟩] [6, 7])
  (.seq (.seq (.reg [⟨some 8, .mv false (.s 1), none⟩,
    ⟨some 9, .call 0 n_pack_Size [(false, (.s 8))], none⟩,
    ⟨some 10, .ar .sub (.s 9) (.c (.int .i64 1)), none⟩,
    ⟨some 11, .ar .mul (.c (.int .i64 7)) (.s 10), none⟩,
    ⟨some 5, .mv false (.s 11), none⟩] [8, 9, 10, 11])
  (.block 0 (.loop lp_pack_put_1)))
  (.seq (.reg [⟨some 24, .mv true (.s 0), none⟩,
    ⟨some 25, .mv false (.s 1), none⟩,
    ⟨some 26, .cvi .u8 (.s 25), none⟩,
    ⟨some 27, .ar .andNot (.s 26) (.c (.int .u8 128)), none⟩,
    ⟨some 28, .bsl false 1 1 [.int .u8 0] [(0, (.s 27))], none⟩,
    ⟨some 29, .app true 1 1 (.s 24) (.s 28), none⟩,
    ⟨some 4, .mv true (.s 29), none⟩] [])
  (.ret)))), true⟩
/-- bailey/baileyref02.groups -/
def tf_ref02_groups : TF := ⟨17, [.tmp 2],
  .seq (.reg [⟨some 2, .mv true (.c (.nils)), none⟩] [2])
  (.seq (.seq (.reg [⟨some 3, .mv false (.s 0), none⟩,
    ⟨some 4, .ar .lss (.s 3) (.c (.int .i64 128)), none⟩] [3])
  (.cond (.s 4) (.seq (.reg [⟨some 5, .mv false (.s 0), none⟩,
    ⟨some 6, .mx (.s 5) (.c (.int .i64 0)), none⟩,
    ⟨some 7, .cvi .u8 (.s 6), none⟩,
    ⟨some 8, .bsr false 1 1 [.int .u8 0] [(0, (.s 7))], none⟩,
    ⟨some 2, .mv true (.s 8), none⟩] [])
  (.ret))
  (.skip)))
  (.seq (.reg [⟨some 9, .mv false (.s 0), none⟩,
    ⟨some 10, .ar .quo (.s 9) (.c (.int .i64 128)), none⟩,
    ⟨some 11, .call 0 n_ref02_groups [(false, (.s 10))], none⟩,
    ⟨some 12, .mv false (.s 0), none⟩,
    ⟨some 13, .ar .rem (.s 12) (.c (.int .i64 128)), none⟩,
    ⟨some 14, .cvi .u8 (.s 13), none⟩,
    ⟨some 15, .bsl false 1 1 [.int .u8 0] [(0, (.s 14))], none⟩,
    ⟨some 16, .apr false 1 1 (.s 11) (.s 15), none⟩,
    ⟨some 2, .mv true (.s 16), none⟩] [])
  (.ret))), false⟩
/-- bailey/caveat.letter -/
def jn_caveat_letter_1 : TC :=
  .cond (.s 3) (.seq (.reg [⟨some 2, .mv false (.c (.bool true)), none⟩] [])
  (.ret))
  (.skip)
def tf_caveat_letter : TF := ⟨20, [.tmp 2],
  .seq (.reg [⟨some 2, .mv false (.c (.bool false)), none⟩] [2])
  (.seq (.block 0 (.seq (.seq (.reg [⟨some 4, .mv false (.s 0), none⟩,
    ⟨some 5, .ar .leq (.c (.int .u8 97)) (.s 4), none⟩,
    ⟨some 6, .mv false (.s 5), none⟩,
    ⟨some 7, .mv false (.s 0), (some (6, true))⟩,
    ⟨some 8, .ar .leq (.s 7) (.c (.int .u8 122)), (some (6, true))⟩,
    ⟨some 9, .pick (.s 6) (.s 8) (.c (.bool false)), none⟩,
    ⟨some 3, .mv false (.s 9), none⟩] [4, 5, 6, 7, 8, 9])
  (.cond (.s 3) (.skip)
  (.seq (.reg [⟨some 10, .mv false (.s 0), none⟩,
    ⟨some 11, .ar .leq (.c (.int .u8 48)) (.s 10), none⟩,
    ⟨some 12, .mv false (.s 11), none⟩,
    ⟨some 13, .mv false (.s 0), (some (12, true))⟩,
    ⟨some 14, .ar .leq (.s 13) (.c (.int .u8 57)), (some (12, true))⟩,
    ⟨some 15, .pick (.s 12) (.s 14) (.c (.bool false)), none⟩,
    ⟨some 3, .mv false (.s 15), none⟩] [10, 11, 12, 13, 14, 15])
  (.cond (.s 3) (.skip)
  (.seq (.reg [⟨some 16, .mv false (.s 0), none⟩,
    ⟨some 17, .ar .eql (.s 16) (.c (.int .u8 45)), none⟩,
    ⟨some 3, .mv false (.s 17), none⟩] [16, 17])
  (.cond (.s 3) (.skip)
  (.reg [⟨some 18, .mv false (.s 0), none⟩,
    ⟨some 19, .ar .eql (.s 18) (.c (.int .u8 95)), none⟩,
    ⟨some 3, .mv false (.s 19), none⟩] [0, 18, 19])))))))
  (jn_caveat_letter_1)))
  (.seq (.reg [⟨some 2, .mv false (.c (.bool false)), none⟩] [])
  (.ret))), true⟩
/-- bailey/pack.Size -/
def lp_pack_Size_1 : TC :=
  .seq (.seq (.reg [⟨some 4, .mv false (.s 0), none⟩,
    ⟨some 5, .ar .geq (.s 4) (.c (.int .i64 128)), none⟩] [4])
  (.cond (.s 5) (.skip)
  (.exit 0)))
  (.block 1 (.seq (.reg [⟨some 6, .mv false (.s 0), none⟩,
    ⟨some 7, .ar .shr (.s 6) (.c (.int .u64 7)), none⟩,
    ⟨some 0, .mv false (.s 7), none⟩] [5, 6, 7])
  (.reg [⟨some 8, .mv false (.s 3), none⟩,
    ⟨some 9, .ar .add (.s 8) (.c (.int .i64 1)), none⟩,
    ⟨some 3, .mv false (.s 9), none⟩] [8, 9])))
def tf_pack_Size : TF := ⟨11, [.tmp 2],
  .seq (.reg [⟨some 2, .mv false (.c (.int .i64 0)), none⟩] [2, 3, 4, 5, 6, 7, 8, 9])
  (.seq (.reg [⟨some 3, .mv false (.c (.int .i64 1)), none⟩] [])
  (.seq (.block 0 (.loop lp_pack_Size_1))
  (.seq (.reg [⟨some 10, .mv false (.s 3), none⟩,
    ⟨some 2, .mv false (.s 10), none⟩] [])
  (.ret)))), true⟩
theorem ok_law19_LedgerBack : chkF Go.Proofs.Try.prog n_law19_LedgerBack tf_law19_LedgerBack = true := by kernel_rfl
theorem ok_law19_LedgerLives : chkF Go.Proofs.Try.prog n_law19_LedgerLives tf_law19_LedgerLives = true := by kernel_rfl
theorem ok_law19_LedgerOnce : chkF Go.Proofs.Try.prog n_law19_LedgerOnce tf_law19_LedgerOnce = true := by kernel_rfl
theorem ok_law19_LedgerCodes : chkF Go.Proofs.Try.prog n_law19_LedgerCodes tf_law19_LedgerCodes = true := by kernel_rfl
theorem ok_law19_few : chkF Go.Proofs.Try.prog n_law19_few tf_law19_few = true := by kernel_rfl
theorem ok_ledger_Check : chkF Go.Proofs.Try.prog n_ledger_Check tf_ledger_Check = true := by kernel_rfl
theorem ok_law19_awake : chkF Go.Proofs.Try.prog n_law19_awake tf_law19_awake = true := by kernel_rfl
theorem ok_ledger_Reserve : chkF Go.Proofs.Try.prog n_ledger_Reserve tf_ledger_Reserve = true := by kernel_rfl
theorem ok_ledger_Same : chkF Go.Proofs.Try.prog n_ledger_Same tf_ledger_Same = true := by kernel_rfl
theorem ok_ledger_Release : chkF Go.Proofs.Try.prog n_ledger_Release tf_ledger_Release = true := by kernel_rfl
theorem ok_law19_do : chkF Go.Proofs.Try.prog n_law19_do tf_law19_do = true := by kernel_rfl
theorem ok_ref19_Check : chkF Go.Proofs.Try.prog n_ref19_Check tf_ref19_Check = true := by kernel_rfl
theorem ok_ledger_Find : chkF Go.Proofs.Try.prog n_ledger_Find tf_ledger_Find = true := by kernel_rfl
theorem ok_ref19_Find : chkF Go.Proofs.Try.prog n_ref19_Find tf_ref19_Find = true := by kernel_rfl
theorem ok_slices_Equal_api_Hold_api_Hold : chkF Go.Proofs.Try.prog n_slices_Equal_api_Hold_api_Hold tf_slices_Equal_api_Hold_api_Hold = true := by kernel_rfl
theorem ok_pack_Open : chkF Go.Proofs.Try.prog n_pack_Open tf_pack_Open = true := by kernel_rfl
theorem ok_ref02_Open : chkF Go.Proofs.Try.prog n_ref02_Open tf_ref02_Open = true := by kernel_rfl
theorem ok_ledger_Read : chkF Go.Proofs.Try.prog n_ledger_Read tf_ledger_Read = true := by kernel_rfl
theorem ok_ref19_Read : chkF Go.Proofs.Try.prog n_ref19_Read tf_ref19_Read = true := by kernel_rfl
theorem ok_slices_Equal_byte_byte : chkF Go.Proofs.Try.prog n_slices_Equal_byte_byte tf_slices_Equal_byte_byte = true := by kernel_rfl
theorem ok_ledger_Put : chkF Go.Proofs.Try.prog n_ledger_Put tf_ledger_Put = true := by kernel_rfl
theorem ok_ref19_Put : chkF Go.Proofs.Try.prog n_ref19_Put tf_ref19_Put = true := by kernel_rfl
theorem ok_ref19_Same : chkF Go.Proofs.Try.prog n_ref19_Same tf_ref19_Same = true := by kernel_rfl
theorem ok_pack_Reader_Err : chkF Go.Proofs.Try.prog n_pack_Reader_Err tf_pack_Reader_Err = true := by kernel_rfl
theorem ok_ref02_Reader_Err : chkF Go.Proofs.Try.prog n_ref02_Reader_Err tf_ref02_Reader_Err = true := by kernel_rfl
theorem ok_pack_Reader_Left : chkF Go.Proofs.Try.prog n_pack_Reader_Left tf_pack_Reader_Left = true := by kernel_rfl
theorem ok_ref02_Reader_Left : chkF Go.Proofs.Try.prog n_ref02_Reader_Left tf_ref02_Reader_Left = true := by kernel_rfl
theorem ok_pack_Reader_End : chkF Go.Proofs.Try.prog n_pack_Reader_End tf_pack_Reader_End = true := by kernel_rfl
theorem ok_nums_Within : chkF Go.Proofs.Try.prog n_nums_Within tf_nums_Within = true := by kernel_rfl
theorem ok_ledger_ordered : chkF Go.Proofs.Try.prog n_ledger_ordered tf_ledger_ordered = true := by kernel_rfl
theorem ok_ledger_mayHold : chkF Go.Proofs.Try.prog n_ledger_mayHold tf_ledger_mayHold = true := by kernel_rfl
theorem ok_ledger_total : chkF Go.Proofs.Try.prog n_ledger_total tf_ledger_total = true := by kernel_rfl
theorem ok_ledger_fits : chkF Go.Proofs.Try.prog n_ledger_fits tf_ledger_fits = true := by kernel_rfl
theorem ok_ledger_own : chkF Go.Proofs.Try.prog n_ledger_own tf_ledger_own = true := by kernel_rfl
theorem ok_ledger_at : chkF Go.Proofs.Try.prog n_ledger_at tf_ledger_at = true := by kernel_rfl
theorem ok_ledger_drop : chkF Go.Proofs.Try.prog n_ledger_drop tf_ledger_drop = true := by kernel_rfl
theorem ok_ref19_Reserve : chkF Go.Proofs.Try.prog n_ref19_Reserve tf_ref19_Reserve = true := by kernel_rfl
theorem ok_ref19_Release : chkF Go.Proofs.Try.prog n_ref19_Release tf_ref19_Release = true := by kernel_rfl
theorem ok_ledger_Spend : chkF Go.Proofs.Try.prog n_ledger_Spend tf_ledger_Spend = true := by kernel_rfl
theorem ok_ref19_Spend : chkF Go.Proofs.Try.prog n_ref19_Spend tf_ref19_Spend = true := by kernel_rfl
theorem ok_ledger_Free : chkF Go.Proofs.Try.prog n_ledger_Free tf_ledger_Free = true := by kernel_rfl
theorem ok_ref19_Free : chkF Go.Proofs.Try.prog n_ref19_Free tf_ref19_Free = true := by kernel_rfl
theorem ok_ledger_Quota : chkF Go.Proofs.Try.prog n_ledger_Quota tf_ledger_Quota = true := by kernel_rfl
theorem ok_ref19_Quota : chkF Go.Proofs.Try.prog n_ref19_Quota tf_ref19_Quota = true := by kernel_rfl
theorem ok_ledger_Expire : chkF Go.Proofs.Try.prog n_ledger_Expire tf_ledger_Expire = true := by kernel_rfl
theorem ok_ref19_Expire : chkF Go.Proofs.Try.prog n_ref19_Expire tf_ref19_Expire = true := by kernel_rfl
theorem ok_ref19_in : chkF Go.Proofs.Try.prog n_ref19_in tf_ref19_in = true := by kernel_rfl
theorem ok_ref19_one : chkF Go.Proofs.Try.prog n_ref19_one tf_ref19_one = true := by kernel_rfl
theorem ok_nums_Sum : chkF Go.Proofs.Try.prog n_nums_Sum tf_nums_Sum = true := by kernel_rfl
theorem ok_pack_room : chkF Go.Proofs.Try.prog n_pack_room tf_pack_room = true := by kernel_rfl
theorem ok_ref02_copied : chkF Go.Proofs.Try.prog n_ref02_copied tf_ref02_copied = true := by kernel_rfl
theorem ok_pack_Reader_Num : chkF Go.Proofs.Try.prog n_pack_Reader_Num tf_pack_Reader_Num = true := by kernel_rfl
theorem ok_ledger_hold : chkF Go.Proofs.Try.prog n_ledger_hold tf_ledger_hold = true := by kernel_rfl
theorem ok_pack_Reader_Fail : chkF Go.Proofs.Try.prog n_pack_Reader_Fail tf_pack_Reader_Fail = true := by kernel_rfl
theorem ok_ref02_Reader_Num : chkF Go.Proofs.Try.prog n_ref02_Reader_Num tf_ref02_Reader_Num = true := by kernel_rfl
theorem ok_ref02_Reader_Text : chkF Go.Proofs.Try.prog n_ref02_Reader_Text tf_ref02_Reader_Text = true := by kernel_rfl
theorem ok_ref02_Reader_Fail : chkF Go.Proofs.Try.prog n_ref02_Reader_Fail tf_ref02_Reader_Fail = true := by kernel_rfl
theorem ok_ledger_put : chkF Go.Proofs.Try.prog n_ledger_put tf_ledger_put = true := by kernel_rfl
theorem ok_pack_Text : chkF Go.Proofs.Try.prog n_pack_Text tf_pack_Text = true := by kernel_rfl
theorem ok_ref02_Num : chkF Go.Proofs.Try.prog n_ref02_Num tf_ref02_Num = true := by kernel_rfl
theorem ok_ref02_Text : chkF Go.Proofs.Try.prog n_ref02_Text tf_ref02_Text = true := by kernel_rfl
theorem ok_pack_Reader_works : chkF Go.Proofs.Try.prog n_pack_Reader_works tf_pack_Reader_works = true := by kernel_rfl
theorem ok_pack_Num : chkF Go.Proofs.Try.prog n_pack_Num tf_pack_Num = true := by kernel_rfl
theorem ok_caveat_Name : chkF Go.Proofs.Try.prog n_caveat_Name tf_caveat_Name = true := by kernel_rfl
theorem ok_nums_Add : chkF Go.Proofs.Try.prog n_nums_Add tf_nums_Add = true := by kernel_rfl
theorem ok_slices_IndexFunc_api_Hold_api_Hold : chkF Go.Proofs.Try.prog n_slices_IndexFunc_api_Hold_api_Hold tf_slices_IndexFunc_api_Hold_api_Hold = true := by kernel_rfl
theorem ok_ledger_at_1 : chkF Go.Proofs.Try.prog n_ledger_at_1 tf_ledger_at_1 = true := by kernel_rfl
theorem ok_slices_Delete_api_Hold_api_Hold : chkF Go.Proofs.Try.prog n_slices_Delete_api_Hold_api_Hold tf_slices_Delete_api_Hold_api_Hold = true := by kernel_rfl
theorem ok_ref19_copied : chkF Go.Proofs.Try.prog n_ref19_copied tf_ref19_copied = true := by kernel_rfl
theorem ok_ref01_Sum : chkF Go.Proofs.Try.prog n_ref01_Sum tf_ref01_Sum = true := by kernel_rfl
theorem ok_ref19_with : chkF Go.Proofs.Try.prog n_ref19_with tf_ref19_with = true := by kernel_rfl
theorem ok_ref06_Name : chkF Go.Proofs.Try.prog n_ref06_Name tf_ref06_Name = true := by kernel_rfl
theorem ok_pack_Reader_take : chkF Go.Proofs.Try.prog n_pack_Reader_take tf_pack_Reader_take = true := by kernel_rfl
theorem ok_pack_Reader_width : chkF Go.Proofs.Try.prog n_pack_Reader_width tf_pack_Reader_width = true := by kernel_rfl
theorem ok_pack_Reader_Text : chkF Go.Proofs.Try.prog n_pack_Reader_Text tf_pack_Reader_Text = true := by kernel_rfl
theorem ok_pack_put : chkF Go.Proofs.Try.prog n_pack_put tf_pack_put = true := by kernel_rfl
theorem ok_ref02_groups : chkF Go.Proofs.Try.prog n_ref02_groups tf_ref02_groups = true := by kernel_rfl
theorem ok_caveat_letter : chkF Go.Proofs.Try.prog n_caveat_letter tf_caveat_letter = true := by kernel_rfl
theorem ok_pack_Size : chkF Go.Proofs.Try.prog n_pack_Size tf_pack_Size = true := by kernel_rfl
def tab : Nat → Option TF := fun f => match f with
  | 3 => some tf_law19_LedgerBack
  | 6 => some tf_law19_LedgerLives
  | 7 => some tf_law19_LedgerOnce
  | 9 => some tf_law19_LedgerCodes
  | 12 => some tf_law19_few
  | 13 => some tf_ledger_Check
  | 14 => some tf_law19_awake
  | 15 => some tf_ledger_Reserve
  | 16 => some tf_ledger_Same
  | 17 => some tf_ledger_Release
  | 25 => some tf_law19_do
  | 26 => some tf_ref19_Check
  | 28 => some tf_ledger_Find
  | 29 => some tf_ref19_Find
  | 30 => some tf_slices_Equal_api_Hold_api_Hold
  | 40 => some tf_pack_Open
  | 41 => some tf_ref02_Open
  | 42 => some tf_ledger_Read
  | 43 => some tf_ref19_Read
  | 44 => some tf_slices_Equal_byte_byte
  | 45 => some tf_ledger_Put
  | 46 => some tf_ref19_Put
  | 47 => some tf_ref19_Same
  | 48 => some tf_pack_Reader_Err
  | 49 => some tf_ref02_Reader_Err
  | 50 => some tf_pack_Reader_Left
  | 51 => some tf_ref02_Reader_Left
  | 52 => some tf_pack_Reader_End
  | 63 => some tf_nums_Within
  | 64 => some tf_ledger_ordered
  | 65 => some tf_ledger_mayHold
  | 66 => some tf_ledger_total
  | 67 => some tf_ledger_fits
  | 68 => some tf_ledger_own
  | 69 => some tf_ledger_at
  | 70 => some tf_ledger_drop
  | 79 => some tf_ref19_Reserve
  | 80 => some tf_ref19_Release
  | 81 => some tf_ledger_Spend
  | 82 => some tf_ref19_Spend
  | 83 => some tf_ledger_Free
  | 84 => some tf_ref19_Free
  | 85 => some tf_ledger_Quota
  | 86 => some tf_ref19_Quota
  | 87 => some tf_ledger_Expire
  | 88 => some tf_ref19_Expire
  | 89 => some tf_ref19_in
  | 90 => some tf_ref19_one
  | 93 => some tf_nums_Sum
  | 98 => some tf_pack_room
  | 99 => some tf_ref02_copied
  | 100 => some tf_pack_Reader_Num
  | 101 => some tf_ledger_hold
  | 102 => some tf_pack_Reader_Fail
  | 103 => some tf_ref02_Reader_Num
  | 104 => some tf_ref02_Reader_Text
  | 105 => some tf_ref02_Reader_Fail
  | 106 => some tf_ledger_put
  | 107 => some tf_pack_Text
  | 108 => some tf_ref02_Num
  | 109 => some tf_ref02_Text
  | 110 => some tf_pack_Reader_works
  | 112 => some tf_pack_Num
  | 115 => some tf_caveat_Name
  | 116 => some tf_nums_Add
  | 117 => some tf_slices_IndexFunc_api_Hold_api_Hold
  | 118 => some tf_ledger_at_1
  | 119 => some tf_slices_Delete_api_Hold_api_Hold
  | 124 => some tf_ref19_copied
  | 125 => some tf_ref01_Sum
  | 126 => some tf_ref19_with
  | 127 => some tf_ref06_Name
  | 134 => some tf_pack_Reader_take
  | 135 => some tf_pack_Reader_width
  | 136 => some tf_pack_Reader_Text
  | 137 => some tf_pack_put
  | 138 => some tf_ref02_groups
  | 141 => some tf_caveat_letter
  | 144 => some tf_pack_Size
  | _ => none
theorem tabOk : TabSound Go.Proofs.Try.prog tab := by
  intro f tf h
  unfold tab at h
  split at h
  · obtain rfl := Option.some.inj h; exact ok_law19_LedgerBack
  · obtain rfl := Option.some.inj h; exact ok_law19_LedgerLives
  · obtain rfl := Option.some.inj h; exact ok_law19_LedgerOnce
  · obtain rfl := Option.some.inj h; exact ok_law19_LedgerCodes
  · obtain rfl := Option.some.inj h; exact ok_law19_few
  · obtain rfl := Option.some.inj h; exact ok_ledger_Check
  · obtain rfl := Option.some.inj h; exact ok_law19_awake
  · obtain rfl := Option.some.inj h; exact ok_ledger_Reserve
  · obtain rfl := Option.some.inj h; exact ok_ledger_Same
  · obtain rfl := Option.some.inj h; exact ok_ledger_Release
  · obtain rfl := Option.some.inj h; exact ok_law19_do
  · obtain rfl := Option.some.inj h; exact ok_ref19_Check
  · obtain rfl := Option.some.inj h; exact ok_ledger_Find
  · obtain rfl := Option.some.inj h; exact ok_ref19_Find
  · obtain rfl := Option.some.inj h; exact ok_slices_Equal_api_Hold_api_Hold
  · obtain rfl := Option.some.inj h; exact ok_pack_Open
  · obtain rfl := Option.some.inj h; exact ok_ref02_Open
  · obtain rfl := Option.some.inj h; exact ok_ledger_Read
  · obtain rfl := Option.some.inj h; exact ok_ref19_Read
  · obtain rfl := Option.some.inj h; exact ok_slices_Equal_byte_byte
  · obtain rfl := Option.some.inj h; exact ok_ledger_Put
  · obtain rfl := Option.some.inj h; exact ok_ref19_Put
  · obtain rfl := Option.some.inj h; exact ok_ref19_Same
  · obtain rfl := Option.some.inj h; exact ok_pack_Reader_Err
  · obtain rfl := Option.some.inj h; exact ok_ref02_Reader_Err
  · obtain rfl := Option.some.inj h; exact ok_pack_Reader_Left
  · obtain rfl := Option.some.inj h; exact ok_ref02_Reader_Left
  · obtain rfl := Option.some.inj h; exact ok_pack_Reader_End
  · obtain rfl := Option.some.inj h; exact ok_nums_Within
  · obtain rfl := Option.some.inj h; exact ok_ledger_ordered
  · obtain rfl := Option.some.inj h; exact ok_ledger_mayHold
  · obtain rfl := Option.some.inj h; exact ok_ledger_total
  · obtain rfl := Option.some.inj h; exact ok_ledger_fits
  · obtain rfl := Option.some.inj h; exact ok_ledger_own
  · obtain rfl := Option.some.inj h; exact ok_ledger_at
  · obtain rfl := Option.some.inj h; exact ok_ledger_drop
  · obtain rfl := Option.some.inj h; exact ok_ref19_Reserve
  · obtain rfl := Option.some.inj h; exact ok_ref19_Release
  · obtain rfl := Option.some.inj h; exact ok_ledger_Spend
  · obtain rfl := Option.some.inj h; exact ok_ref19_Spend
  · obtain rfl := Option.some.inj h; exact ok_ledger_Free
  · obtain rfl := Option.some.inj h; exact ok_ref19_Free
  · obtain rfl := Option.some.inj h; exact ok_ledger_Quota
  · obtain rfl := Option.some.inj h; exact ok_ref19_Quota
  · obtain rfl := Option.some.inj h; exact ok_ledger_Expire
  · obtain rfl := Option.some.inj h; exact ok_ref19_Expire
  · obtain rfl := Option.some.inj h; exact ok_ref19_in
  · obtain rfl := Option.some.inj h; exact ok_ref19_one
  · obtain rfl := Option.some.inj h; exact ok_nums_Sum
  · obtain rfl := Option.some.inj h; exact ok_pack_room
  · obtain rfl := Option.some.inj h; exact ok_ref02_copied
  · obtain rfl := Option.some.inj h; exact ok_pack_Reader_Num
  · obtain rfl := Option.some.inj h; exact ok_ledger_hold
  · obtain rfl := Option.some.inj h; exact ok_pack_Reader_Fail
  · obtain rfl := Option.some.inj h; exact ok_ref02_Reader_Num
  · obtain rfl := Option.some.inj h; exact ok_ref02_Reader_Text
  · obtain rfl := Option.some.inj h; exact ok_ref02_Reader_Fail
  · obtain rfl := Option.some.inj h; exact ok_ledger_put
  · obtain rfl := Option.some.inj h; exact ok_pack_Text
  · obtain rfl := Option.some.inj h; exact ok_ref02_Num
  · obtain rfl := Option.some.inj h; exact ok_ref02_Text
  · obtain rfl := Option.some.inj h; exact ok_pack_Reader_works
  · obtain rfl := Option.some.inj h; exact ok_pack_Num
  · obtain rfl := Option.some.inj h; exact ok_caveat_Name
  · obtain rfl := Option.some.inj h; exact ok_nums_Add
  · obtain rfl := Option.some.inj h; exact ok_slices_IndexFunc_api_Hold_api_Hold
  · obtain rfl := Option.some.inj h; exact ok_ledger_at_1
  · obtain rfl := Option.some.inj h; exact ok_slices_Delete_api_Hold_api_Hold
  · obtain rfl := Option.some.inj h; exact ok_ref19_copied
  · obtain rfl := Option.some.inj h; exact ok_ref01_Sum
  · obtain rfl := Option.some.inj h; exact ok_ref19_with
  · obtain rfl := Option.some.inj h; exact ok_ref06_Name
  · obtain rfl := Option.some.inj h; exact ok_pack_Reader_take
  · obtain rfl := Option.some.inj h; exact ok_pack_Reader_width
  · obtain rfl := Option.some.inj h; exact ok_pack_Reader_Text
  · obtain rfl := Option.some.inj h; exact ok_pack_put
  · obtain rfl := Option.some.inj h; exact ok_ref02_groups
  · obtain rfl := Option.some.inj h; exact ok_caveat_letter
  · obtain rfl := Option.some.inj h; exact ok_pack_Size
  · cases h
theorem tab_law19_LedgerBack : tab n_law19_LedgerBack = some tf_law19_LedgerBack := rfl
theorem tab_law19_LedgerLives : tab n_law19_LedgerLives = some tf_law19_LedgerLives := rfl
theorem tab_law19_LedgerOnce : tab n_law19_LedgerOnce = some tf_law19_LedgerOnce := rfl
theorem tab_law19_LedgerCodes : tab n_law19_LedgerCodes = some tf_law19_LedgerCodes := rfl
theorem tab_law19_few : tab n_law19_few = some tf_law19_few := rfl
theorem tab_ledger_Check : tab n_ledger_Check = some tf_ledger_Check := rfl
theorem tab_law19_awake : tab n_law19_awake = some tf_law19_awake := rfl
theorem tab_ledger_Reserve : tab n_ledger_Reserve = some tf_ledger_Reserve := rfl
theorem tab_ledger_Same : tab n_ledger_Same = some tf_ledger_Same := rfl
theorem tab_ledger_Release : tab n_ledger_Release = some tf_ledger_Release := rfl
theorem tab_law19_do : tab n_law19_do = some tf_law19_do := rfl
theorem tab_ref19_Check : tab n_ref19_Check = some tf_ref19_Check := rfl
theorem tab_ledger_Find : tab n_ledger_Find = some tf_ledger_Find := rfl
theorem tab_ref19_Find : tab n_ref19_Find = some tf_ref19_Find := rfl
theorem tab_slices_Equal_api_Hold_api_Hold : tab n_slices_Equal_api_Hold_api_Hold = some tf_slices_Equal_api_Hold_api_Hold := rfl
theorem tab_pack_Open : tab n_pack_Open = some tf_pack_Open := rfl
theorem tab_ref02_Open : tab n_ref02_Open = some tf_ref02_Open := rfl
theorem tab_ledger_Read : tab n_ledger_Read = some tf_ledger_Read := rfl
theorem tab_ref19_Read : tab n_ref19_Read = some tf_ref19_Read := rfl
theorem tab_slices_Equal_byte_byte : tab n_slices_Equal_byte_byte = some tf_slices_Equal_byte_byte := rfl
theorem tab_ledger_Put : tab n_ledger_Put = some tf_ledger_Put := rfl
theorem tab_ref19_Put : tab n_ref19_Put = some tf_ref19_Put := rfl
theorem tab_ref19_Same : tab n_ref19_Same = some tf_ref19_Same := rfl
theorem tab_pack_Reader_Err : tab n_pack_Reader_Err = some tf_pack_Reader_Err := rfl
theorem tab_ref02_Reader_Err : tab n_ref02_Reader_Err = some tf_ref02_Reader_Err := rfl
theorem tab_pack_Reader_Left : tab n_pack_Reader_Left = some tf_pack_Reader_Left := rfl
theorem tab_ref02_Reader_Left : tab n_ref02_Reader_Left = some tf_ref02_Reader_Left := rfl
theorem tab_pack_Reader_End : tab n_pack_Reader_End = some tf_pack_Reader_End := rfl
theorem tab_nums_Within : tab n_nums_Within = some tf_nums_Within := rfl
theorem tab_ledger_ordered : tab n_ledger_ordered = some tf_ledger_ordered := rfl
theorem tab_ledger_mayHold : tab n_ledger_mayHold = some tf_ledger_mayHold := rfl
theorem tab_ledger_total : tab n_ledger_total = some tf_ledger_total := rfl
theorem tab_ledger_fits : tab n_ledger_fits = some tf_ledger_fits := rfl
theorem tab_ledger_own : tab n_ledger_own = some tf_ledger_own := rfl
theorem tab_ledger_at : tab n_ledger_at = some tf_ledger_at := rfl
theorem tab_ledger_drop : tab n_ledger_drop = some tf_ledger_drop := rfl
theorem tab_ref19_Reserve : tab n_ref19_Reserve = some tf_ref19_Reserve := rfl
theorem tab_ref19_Release : tab n_ref19_Release = some tf_ref19_Release := rfl
theorem tab_ledger_Spend : tab n_ledger_Spend = some tf_ledger_Spend := rfl
theorem tab_ref19_Spend : tab n_ref19_Spend = some tf_ref19_Spend := rfl
theorem tab_ledger_Free : tab n_ledger_Free = some tf_ledger_Free := rfl
theorem tab_ref19_Free : tab n_ref19_Free = some tf_ref19_Free := rfl
theorem tab_ledger_Quota : tab n_ledger_Quota = some tf_ledger_Quota := rfl
theorem tab_ref19_Quota : tab n_ref19_Quota = some tf_ref19_Quota := rfl
theorem tab_ledger_Expire : tab n_ledger_Expire = some tf_ledger_Expire := rfl
theorem tab_ref19_Expire : tab n_ref19_Expire = some tf_ref19_Expire := rfl
theorem tab_ref19_in : tab n_ref19_in = some tf_ref19_in := rfl
theorem tab_ref19_one : tab n_ref19_one = some tf_ref19_one := rfl
theorem tab_nums_Sum : tab n_nums_Sum = some tf_nums_Sum := rfl
theorem tab_pack_room : tab n_pack_room = some tf_pack_room := rfl
theorem tab_ref02_copied : tab n_ref02_copied = some tf_ref02_copied := rfl
theorem tab_pack_Reader_Num : tab n_pack_Reader_Num = some tf_pack_Reader_Num := rfl
theorem tab_ledger_hold : tab n_ledger_hold = some tf_ledger_hold := rfl
theorem tab_pack_Reader_Fail : tab n_pack_Reader_Fail = some tf_pack_Reader_Fail := rfl
theorem tab_ref02_Reader_Num : tab n_ref02_Reader_Num = some tf_ref02_Reader_Num := rfl
theorem tab_ref02_Reader_Text : tab n_ref02_Reader_Text = some tf_ref02_Reader_Text := rfl
theorem tab_ref02_Reader_Fail : tab n_ref02_Reader_Fail = some tf_ref02_Reader_Fail := rfl
theorem tab_ledger_put : tab n_ledger_put = some tf_ledger_put := rfl
theorem tab_pack_Text : tab n_pack_Text = some tf_pack_Text := rfl
theorem tab_ref02_Num : tab n_ref02_Num = some tf_ref02_Num := rfl
theorem tab_ref02_Text : tab n_ref02_Text = some tf_ref02_Text := rfl
theorem tab_pack_Reader_works : tab n_pack_Reader_works = some tf_pack_Reader_works := rfl
theorem tab_pack_Num : tab n_pack_Num = some tf_pack_Num := rfl
theorem tab_caveat_Name : tab n_caveat_Name = some tf_caveat_Name := rfl
theorem tab_nums_Add : tab n_nums_Add = some tf_nums_Add := rfl
theorem tab_slices_IndexFunc_api_Hold_api_Hold : tab n_slices_IndexFunc_api_Hold_api_Hold = some tf_slices_IndexFunc_api_Hold_api_Hold := rfl
theorem tab_ledger_at_1 : tab n_ledger_at_1 = some tf_ledger_at_1 := rfl
theorem tab_slices_Delete_api_Hold_api_Hold : tab n_slices_Delete_api_Hold_api_Hold = some tf_slices_Delete_api_Hold_api_Hold := rfl
theorem tab_ref19_copied : tab n_ref19_copied = some tf_ref19_copied := rfl
theorem tab_ref01_Sum : tab n_ref01_Sum = some tf_ref01_Sum := rfl
theorem tab_ref19_with : tab n_ref19_with = some tf_ref19_with := rfl
theorem tab_ref06_Name : tab n_ref06_Name = some tf_ref06_Name := rfl
theorem tab_pack_Reader_take : tab n_pack_Reader_take = some tf_pack_Reader_take := rfl
theorem tab_pack_Reader_width : tab n_pack_Reader_width = some tf_pack_Reader_width := rfl
theorem tab_pack_Reader_Text : tab n_pack_Reader_Text = some tf_pack_Reader_Text := rfl
theorem tab_pack_put : tab n_pack_put = some tf_pack_put := rfl
theorem tab_ref02_groups : tab n_ref02_groups = some tf_ref02_groups := rfl
theorem tab_caveat_letter : tab n_caveat_letter = some tf_caveat_letter := rfl
theorem tab_pack_Size : tab n_pack_Size = some tf_pack_Size := rfl
def ext : Nat → Option CallF := fun f => match f with
  | 27 => some (cloneC true 6 56)
  | _ => none
theorem one_slices_Clone_api_Hold_api_Hold : ExtOne Go.Proofs.Try.prog n_slices_Clone_api_Hold_api_Hold (cloneC true 6 56) := ExtOne.clone (by kernel_rfl)
theorem ext_ord : ExtOrd ext := by
  intro f c h
  unfold ext at h
  split at h
  · obtain rfl := Option.some.inj h; exact one_slices_Clone_api_Hold_api_Hold.ord
  · cases h
theorem ext_snd : ExtSound Go.Proofs.Try.prog ext := by
  intro f c h
  unfold ext at h
  split at h
  · obtain rfl := Option.some.inj h; exact one_slices_Clone_api_Hold_api_Hold.snd
  · cases h
/-- What the program's functions answer. -/
noncomputable abbrev CT : CallF := callT tab ext
end Go.T
