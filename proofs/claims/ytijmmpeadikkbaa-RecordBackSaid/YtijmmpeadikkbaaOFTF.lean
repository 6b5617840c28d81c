/- The codes of the functions, for the small machine. -/
import Derived.Test.YtijmmpeadikkbaaOM8
import Derived.Test.YtijmmpeadikkbaaProg
import Derived.KernelRfl
set_option maxRecDepth 100000
set_option linter.unusedVariables false
namespace Go.T
abbrev n_law11_RecordRises : Nat := 3
abbrev n_law13_RlogConf : Nat := 4
abbrev n_law11_RecordApplies : Nat := 5
abbrev n_law11_RecordEntries : Nat := 6
abbrev n_law11_RecordCodes : Nat := 8
abbrev n_law11_RecordBack : Nat := 9
abbrev n_law11_few : Nat := 12
abbrev n_record_Apply : Nat := 13
abbrev n_law11_awake : Nat := 14
abbrev n_law13_awake : Nat := 15
abbrev n_rlog_ConfOf : Nat := 16
abbrev n_rlog_ConfData : Nat := 17
abbrev n_slices_Equal_byte_byte : Nat := 18
abbrev n_ref13_ConfData : Nat := 19
abbrev n_ref13_ConfOf : Nat := 20
abbrev n_law11_fewSaved : Nat := 21
abbrev n_slices_Clone_api_Entry_api_Entry : Nat := 22
abbrev n_ref11_Apply : Nat := 23
abbrev n_ref11_SameSaved : Nat := 24
abbrev n_record_SameSaved : Nat := 25
abbrev n_slices_EqualFunc_api_Entry_api_Entry_api_Entry_api_Entry : Nat := 26
abbrev n_law11_RecordApplies_1 : Nat := 27
abbrev n_ref11_SameEntry : Nat := 28
abbrev n_pack_Open : Nat := 29
abbrev n_ref02_Open : Nat := 30
abbrev n_record_ReadEntry : Nat := 31
abbrev n_ref11_ReadEntry : Nat := 32
abbrev n_record_Entry : Nat := 33
abbrev n_ref11_Entry : Nat := 34
abbrev n_record_SameEntry : Nat := 35
abbrev n_record_PutEntry : Nat := 36
abbrev n_ref11_PutEntry : Nat := 37
abbrev n_pack_Reader_Err : Nat := 38
abbrev n_ref02_Reader_Err : Nat := 39
abbrev n_pack_Reader_Left : Nat := 40
abbrev n_ref02_Reader_Left : Nat := 41
abbrev n_rlog_Log_Term : Nat := 43
abbrev n_rlog_Log_Append : Nat := 44
abbrev n_rlog_Log_Cut : Nat := 45
abbrev n_rlog_Log_Last : Nat := 48
abbrev n_rlog_Log_LastTerm : Nat := 49
abbrev n_record_Encode : Nat := 53
abbrev n_ref11_Encode : Nat := 54
abbrev n_record_Check : Nat := 55
abbrev n_ref11_Check : Nat := 56
abbrev n_record_Same : Nat := 57
abbrev n_ref11_Same : Nat := 58
abbrev n_record_Decode : Nat := 59
abbrev n_ref11_Decode : Nat := 60
abbrev n_rlog_New : Nat := 63
abbrev n_slices_Clone_byte_byte : Nat := 67
abbrev n_record_fits : Nat := 73
abbrev n_record_without : Nat := 74
abbrev n_record_Apply_1 : Nat := 75
abbrev n_record_Apply_2 : Nat := 76
abbrev n_pack_Reader_Num : Nat := 77
abbrev n_pack_Reader_End : Nat := 78
abbrev n_pack_Num : Nat := 79
abbrev n_ref02_Num : Nat := 80
abbrev n_ref02_Reader_Num : Nat := 81
abbrev n_ref02_Reader_End : Nat := 82
abbrev n_ref11_last : Nat := 83
abbrev n_pack_room : Nat := 84
abbrev n_ref02_copied : Nat := 85
abbrev n_record_take : Nat := 86
abbrev n_record_ofEntry : Nat := 87
abbrev n_pack_Reader_Text : Nat := 88
abbrev n_pack_Reader_Fail : Nat := 89
abbrev n_ref02_Reader_Text : Nat := 90
abbrev n_ref02_Reader_Fail : Nat := 91
abbrev n_record_allIn : Nat := 92
abbrev n_ref11_in : Nat := 93
abbrev n_pack_Text : Nat := 94
abbrev n_record_put : Nat := 95
abbrev n_ref02_Text : Nat := 96
abbrev n_pack_Reader_works : Nat := 97
abbrev n_rlog_Log_there : Nat := 98
abbrev n_rlog_Log_place : Nat := 99
abbrev n_rlog_own : Nat := 100
abbrev n_slices_Clip_api_Entry_api_Entry : Nat := 101
abbrev n_record_ofRecord : Nat := 103
abbrev n_record_bare : Nat := 104
abbrev n_ref11_only : Nat := 105
abbrev n_record_last : Nat := 113
abbrev n_slices_DeleteFunc_api_Entry_api_Entry : Nat := 114
abbrev n_pack_Reader_take : Nat := 115
abbrev n_pack_Reader_width : Nat := 116
abbrev n_pack_put : Nat := 117
abbrev n_ref02_groups : Nat := 118
abbrev n_slices_ContainsFunc_record_number_record_number : Nat := 119
abbrev n_record_allIn_1 : Nat := 120
abbrev n_record_number_in : Nat := 121
abbrev n_slices_IndexFunc_api_Entry_api_Entry : Nat := 123
abbrev n_pack_Size : Nat := 124
abbrev n_slices_IndexFunc_record_number_record_number : Nat := 125
/-- bailey/baileylaw11.RecordRises -/
def lp_law11_RecordRises_1 : TC :=
  .seq (.reg [⟨some 32, .ar .lss (.s 31) (.s 30), none⟩] [])
  (.seq (.cond (.s 32) (.skip)
  (.exit 2))
  (.seq (.block 3 (.seq (.reg [⟨some 33, .mv false (.s 31), none⟩,
    ⟨some 34, .ia 4 (.s 29) (.s 31), none⟩,
    ⟨some 35, .ldh false true 4 (.s 34), none⟩,
    ⟨some 7, .lal [.int .i64 0, .int .i64 0, .int .i64 0, .nils], none⟩,
    ⟨some 6, .mv false (.s 33), none⟩,
    ⟨none, .stl true 4 7 (.s 7) (.s 35), none⟩] [32, 33, 34, 35])
  (.seq (.reg [⟨some 36, .fa 0 (.s 7), none⟩,
    ⟨some 37, .ldl false false 1 7 (.s 36), none⟩,
    ⟨some 38, .fa 2 (.s 3), none⟩,
    ⟨some 39, .ldl false false 1 3 (.s 38), none⟩,
    ⟨some 40, .ar .add (.s 39) (.c (.int .i64 1)), none⟩,
    ⟨some 41, .mv false (.s 6), none⟩,
    ⟨some 42, .ar .add (.s 40) (.s 41), none⟩,
    ⟨some 43, .ar .neq (.s 37) (.s 42), none⟩] [6, 7, 36, 37, 38, 39, 40, 41, 42])
  (.cond (.s 43) (.seq (.reg [⟨some 2, .mv false (.c (.bool false)), none⟩] [])
  (.ret))
  (.skip)))))
  (.reg [⟨some 44, .ar .add (.s 31) (.c (.int .i64 1)), none⟩,
    ⟨some 31, .mv false (.s 44), none⟩] [43, 44])))
def lp_law11_RecordRises_2 : TC :=
  .seq (.reg [⟨some 11, .ar .lss (.s 10) (.s 9), none⟩] [])
  (.seq (.cond (.s 11) (.skip)
  (.exit 0))
  (.seq (.block 1 (.seq (.reg [⟨some 12, .mv false (.s 10), none⟩,
    ⟨some 13, .ia 10 (.s 8) (.s 10), none⟩,
    ⟨some 14, .ldh false true 10 (.s 13), none⟩,
    ⟨some 5, .lal [.int .i64 0, .int .i64 0, .int .i64 0, .int .i64 0, .int .i64 0, .int .i64 0, .nils, .int .i64 0, .int .i64 0, .nils], none⟩,
    ⟨some 4, .mv false (.s 12), none⟩,
    ⟨none, .stl true 10 5 (.s 5) (.s 14), none⟩] [11, 12, 13, 14])
  (.seq (.seq (.reg [⟨some 15, .mv false (.s 4), none⟩,
    ⟨some 16, .ar .geq (.s 15) (.c (.int .i64 30)), none⟩,
    ⟨some 17, .mv false (.s 16), none⟩,
    ⟨some 18, .ldl false true 10 5 (.s 5), (some (17, false))⟩,
    ⟨some 19, .call 0 n_law11_few [(false, (.s 18))], (some (17, false))⟩,
    ⟨some 20, .not (.s 19), (some (17, false))⟩,
    ⟨some 21, .pick (.s 17) (.c (.bool true)) (.s 20), none⟩] [4, 15, 16, 17, 18, 19, 20])
  (.cond (.s 21) (.exit 0)
  (.skip)))
  (.seq (.reg [⟨some 23, .ldl false true 7 3 (.s 3), none⟩,
    ⟨some 24, .ldl false true 10 5 (.s 5), none⟩,
    ⟨some 25, .call 0 n_record_Apply [(false, (.s 23)), (false, (.s 24))], none⟩,
    ⟨some 22, .mv true (.s 25), none⟩,
    ⟨some 26, .ext true 0 (.s 22), none⟩,
    ⟨some 27, .ext false 1 (.s 22), none⟩,
    ⟨none, .stl true 7 3 (.s 3) (.s 26), none⟩] [5, 21, 22, 23, 24, 25, 26, 27])
  (.seq (.reg [⟨some 28, .fa 6 (.s 3), none⟩,
    ⟨some 29, .ldl false false 1 3 (.s 28), none⟩,
    ⟨some 30, .len false (.s 29), none⟩,
    ⟨some 31, .mv false (.c (.int .i64 0)), none⟩] [28])
  (.block 2 (.loop lp_law11_RecordRises_1)))))))
  (.reg [⟨some 45, .ar .add (.s 10) (.c (.int .i64 1)), none⟩,
    ⟨some 10, .mv false (.s 45), none⟩] [29, 30, 31, 32, 45])))
def jn_law11_RecordRises_3 : TC :=
  .seq (.reg [⟨some 46, .call 2 n_law11_awake [], none⟩,
    ⟨some 2, .mv false (.s 46), none⟩] [])
  (.ret)
def tf_law11_RecordRises : TF := ⟨47, [.tmp 2],
  .seq (.reg [⟨some 2, .mv false (.c (.bool false)), none⟩] [2, 4, 5, 6, 7, 10, 11, 12, 13, 14, 15, 16, 17, 18, 19, 20, 21, 22, 23, 24, 25, 26, 27, 28, 29, 30, 31, 32, 33, 34, 35, 36, 37, 38, 39, 40, 41, 42, 43, 44, 45])
  (.seq (.reg [⟨some 3, .lal [.int .i64 0, .int .i64 0, .int .i64 0, .int .i64 0, .int .i64 0, .nils, .nils], none⟩] [])
  (.seq (.seq (.reg [⟨some 8, .mv true (.s 0), none⟩,
    ⟨some 9, .len false (.s 8), none⟩,
    ⟨some 10, .mv false (.c (.int .i64 0)), none⟩] [0])
  (.block 0 (.loop lp_law11_RecordRises_2)))
  (jn_law11_RecordRises_3))), true⟩
/-- bailey/baileylaw13.RlogConf -/
def tf_law13_RlogConf : TF := ⟨37, [.tmp 4],
  .seq (.reg [⟨some 4, .mv false (.c (.bool false)), none⟩] [4])
  (.seq (.seq (.reg [⟨some 5, .mv false (.s 1), none⟩,
    ⟨some 6, .len false (.s 5), none⟩,
    ⟨some 7, .ar .gtr (.s 6) (.c (.int .i64 1000)), none⟩] [5, 6])
  (.cond (.s 7) (.seq (.reg [⟨some 8, .call 2 n_law13_awake [], none⟩,
    ⟨some 4, .mv false (.s 8), none⟩] [])
  (.ret))
  (.skip)))
  (.seq (.seq (.reg [⟨some 9, .mv false (.s 0), none⟩,
    ⟨some 10, .ar .geq (.s 9) (.c (.int .i64 1)), none⟩,
    ⟨some 11, .mv false (.s 10), none⟩,
    ⟨some 12, .mv false (.s 0), (some (11, true))⟩,
    ⟨some 13, .ar .leq (.s 12) (.c (.int .i64 127)), (some (11, true))⟩,
    ⟨some 14, .pick (.s 11) (.s 13) (.c (.bool false)), none⟩,
    ⟨some 15, .mv false (.s 14), none⟩,
    ⟨some 16, .mv false (.s 0), (some (15, true))⟩,
    ⟨some 17, .call 0 n_rlog_ConfData [(false, (.s 16))], (some (15, true))⟩,
    ⟨some 18, .call 0 n_rlog_ConfOf [(false, (.s 17))], (some (15, true))⟩,
    ⟨some 19, .mv false (.s 0), (some (15, true))⟩,
    ⟨some 20, .ar .neq (.s 18) (.s 19), (some (15, true))⟩,
    ⟨some 21, .pick (.s 15) (.s 20) (.c (.bool false)), none⟩] [7, 9, 10, 11, 12, 13, 14, 15, 16, 17, 18, 19, 20])
  (.cond (.s 21) (.seq (.reg [⟨some 4, .mv false (.c (.bool false)), none⟩] [])
  (.ret))
  (.skip)))
  (.seq (.reg [⟨some 22, .mv false (.s 0), none⟩,
    ⟨some 23, .call 0 n_rlog_ConfData [(false, (.s 22))], none⟩,
    ⟨some 24, .mv false (.s 0), none⟩,
    ⟨some 25, .call 0 n_ref13_ConfData [(false, (.s 24))], none⟩,
    ⟨some 26, .call 0 n_slices_Equal_byte_byte [(false, (.s 23)), (false, (.s 25))], none⟩,
    ⟨some 27, .mv false (.s 26), none⟩,
    ⟨some 28, .mv false (.s 1), (some (27, true))⟩,
    ⟨some 29, .call 0 n_rlog_ConfOf [(false, (.s 28))], (some (27, true))⟩,
    ⟨some 30, .mv false (.s 1), (some (27, true))⟩,
    ⟨some 31, .call 0 n_ref13_ConfOf [(false, (.s 30))], (some (27, true))⟩,
    ⟨some 32, .ar .eql (.s 29) (.s 31), (some (27, true))⟩,
    ⟨some 33, .pick (.s 27) (.s 32) (.c (.bool false)), none⟩,
    ⟨some 34, .mv false (.s 33), none⟩,
    ⟨some 35, .call 2 n_law13_awake [], (some (34, true))⟩,
    ⟨some 36, .pick (.s 34) (.s 35) (.c (.bool false)), none⟩,
    ⟨some 4, .mv false (.s 36), none⟩] [])
  (.ret)))), true⟩
/-- bailey/baileylaw11.RecordApplies -/
def tf_law11_RecordApplies : TF := ⟨76, [.tmp 6],
  .seq (.reg [⟨some 3, .lbx true (.s 0), none⟩,
    ⟨some 4, .lbx true (.s 1), none⟩,
    ⟨some 5, .lbx true (.s 2), none⟩,
    ⟨some 6, .mv false (.c (.bool false)), none⟩] [0, 1, 2, 6])
  (.seq (.seq (.reg [⟨some 13, .ldl false true 7 3 (.s 3), none⟩,
    ⟨some 14, .call 0 n_law11_fewSaved [(false, (.s 13))], none⟩,
    ⟨some 15, .not (.s 14), none⟩,
    ⟨some 16, .mv false (.s 15), none⟩,
    ⟨some 17, .ldl false true 7 4 (.s 4), (some (16, false))⟩,
    ⟨some 18, .call 0 n_law11_fewSaved [(false, (.s 17))], (some (16, false))⟩,
    ⟨some 19, .not (.s 18), (some (16, false))⟩,
    ⟨some 20, .pick (.s 16) (.c (.bool true)) (.s 19), none⟩,
    ⟨some 21, .mv false (.s 20), none⟩,
    ⟨some 22, .fa 9 (.s 5), (some (21, false))⟩,
    ⟨some 23, .ldl false false 1 5 (.s 22), (some (21, false))⟩,
    ⟨some 24, .len false (.s 23), (some (21, false))⟩,
    ⟨some 25, .ar .gtr (.s 24) (.c (.int .i64 3000)), (some (21, false))⟩,
    ⟨some 26, .pick (.s 21) (.c (.bool true)) (.s 25), none⟩,
    ⟨some 27, .mv false (.s 26), none⟩,
    ⟨some 28, .fa 3 (.s 5), (some (27, false))⟩,
    ⟨some 29, .fa 3 (.s 28), (some (27, false))⟩,
    ⟨some 30, .ldl false false 1 5 (.s 29), (some (27, false))⟩,
    ⟨some 31, .len false (.s 30), (some (27, false))⟩,
    ⟨some 32, .ar .gtr (.s 31) (.c (.int .i64 5000)), (some (27, false))⟩,
    ⟨some 33, .pick (.s 27) (.c (.bool true)) (.s 32), none⟩] [13, 14, 15, 16, 17, 18, 19, 20, 21, 22, 23, 24, 25, 26, 27, 28, 29, 30, 31, 32])
  (.cond (.s 33) (.seq (.reg [⟨some 34, .call 2 n_law11_awake [], none⟩,
    ⟨some 6, .mv false (.s 34), none⟩] [])
  (.ret))
  (.skip)))
  (.seq (.reg [⟨some 35, .fa 6 (.s 3), none⟩,
    ⟨some 36, .ldl false false 1 3 (.s 35), none⟩,
    ⟨some 37, .call 3 n_slices_Clone_api_Entry_api_Entry [(false, (.s 36))], none⟩,
    ⟨some 7, .mv true (.s 37), none⟩] [33, 35, 36, 37])
  (.seq (.reg [⟨some 39, .ldl false true 7 3 (.s 3), none⟩,
    ⟨some 40, .ldl false true 10 5 (.s 5), none⟩,
    ⟨some 41, .call 0 n_record_Apply [(false, (.s 39)), (false, (.s 40))], none⟩,
    ⟨some 38, .mv true (.s 41), none⟩,
    ⟨some 42, .ext true 0 (.s 38), none⟩,
    ⟨some 43, .ext false 1 (.s 38), none⟩,
    ⟨some 8, .lal [.int .i64 0, .int .i64 0, .int .i64 0, .int .i64 0, .int .i64 0, .nils, .nils], none⟩,
    ⟨none, .stl true 7 8 (.s 8) (.s 42), none⟩,
    ⟨some 9, .mv false (.s 43), none⟩] [38, 39, 40, 41, 42, 43])
  (.seq (.reg [⟨some 45, .ldl false true 7 3 (.s 3), none⟩,
    ⟨some 46, .ldl false true 10 5 (.s 5), none⟩,
    ⟨some 47, .call 0 n_ref11_Apply [(false, (.s 45)), (false, (.s 46))], none⟩,
    ⟨some 44, .mv true (.s 47), none⟩,
    ⟨some 48, .ext true 0 (.s 44), none⟩,
    ⟨some 49, .ext false 1 (.s 44), none⟩,
    ⟨some 10, .lal [.int .i64 0, .int .i64 0, .int .i64 0, .int .i64 0, .int .i64 0, .nils, .nils], none⟩,
    ⟨none, .stl true 7 10 (.s 10) (.s 48), none⟩,
    ⟨some 11, .mv false (.s 49), none⟩] [5, 44, 45, 46, 47, 48, 49])
  (.seq (.seq (.reg [⟨some 50, .mv false (.s 9), none⟩,
    ⟨some 51, .mv false (.s 11), none⟩,
    ⟨some 52, .ar .neq (.s 50) (.s 51), none⟩,
    ⟨some 53, .mv false (.s 52), none⟩,
    ⟨some 54, .ldl false true 7 8 (.s 8), (some (53, false))⟩,
    ⟨some 55, .ldl false true 7 10 (.s 10), (some (53, false))⟩,
    ⟨some 56, .call 0 n_ref11_SameSaved [(false, (.s 54)), (false, (.s 55))], (some (53, false))⟩,
    ⟨some 57, .not (.s 56), (some (53, false))⟩,
    ⟨some 58, .pick (.s 53) (.c (.bool true)) (.s 57), none⟩,
    ⟨some 59, .mv false (.s 58), none⟩,
    ⟨some 60, .ldl false true 7 3 (.s 3), (some (59, false))⟩,
    ⟨some 61, .ldl false true 7 4 (.s 4), (some (59, false))⟩,
    ⟨some 62, .call 0 n_record_SameSaved [(false, (.s 60)), (false, (.s 61))], (some (59, false))⟩,
    ⟨some 63, .ldl false true 7 3 (.s 3), (some (59, false))⟩,
    ⟨some 64, .ldl false true 7 4 (.s 4), (some (59, false))⟩,
    ⟨some 65, .call 0 n_ref11_SameSaved [(false, (.s 63)), (false, (.s 64))], (some (59, false))⟩,
    ⟨some 66, .eqb true (.s 62) (.s 65), (some (59, false))⟩,
    ⟨some 67, .pick (.s 59) (.c (.bool true)) (.s 66), none⟩] [4, 8, 9, 10, 11, 50, 51, 52, 53, 54, 55, 56, 57, 58, 59, 60, 61, 62, 63, 64, 65, 66])
  (.cond (.s 67) (.seq (.reg [⟨some 6, .mv false (.c (.bool false)), none⟩] [])
  (.ret))
  (.skip)))
  (.seq (.reg [⟨some 68, .fa 6 (.s 3), none⟩,
    ⟨some 69, .ldl false false 1 3 (.s 68), none⟩,
    ⟨some 70, .mv false (.s 7), none⟩,
    ⟨some 71, .call 0 n_slices_EqualFunc_api_Entry_api_Entry_api_Entry_api_Entry [(false, (.s 69)), (false, (.s 70)), (false, (.c (.fn n_law11_RecordApplies_1 [])))], none⟩,
    ⟨some 12, .mv false (.s 71), none⟩] [3, 7, 67, 68, 69, 70, 71])
  (.seq (.reg [⟨some 72, .mv false (.s 12), none⟩,
    ⟨some 73, .mv false (.s 72), none⟩,
    ⟨some 74, .call 2 n_law11_awake [], (some (73, true))⟩,
    ⟨some 75, .pick (.s 73) (.s 74) (.c (.bool false)), none⟩,
    ⟨some 6, .mv false (.s 75), none⟩] [])
  (.ret)))))))), true⟩
/-- bailey/baileylaw11.RecordEntries -/
def tf_law11_RecordEntries : TF := ⟨80, [.tmp 6],
  .seq (.reg [⟨some 3, .lbx true (.s 0), none⟩,
    ⟨some 4, .lbx true (.s 1), none⟩,
    ⟨some 6, .mv false (.c (.bool false)), none⟩] [0, 1, 6])
  (.seq (.seq (.reg [⟨some 11, .fa 3 (.s 3), none⟩,
    ⟨some 12, .ldl false false 1 3 (.s 11), none⟩,
    ⟨some 13, .len false (.s 12), none⟩,
    ⟨some 14, .ar .gtr (.s 13) (.c (.int .i64 5000)), none⟩,
    ⟨some 15, .mv false (.s 14), none⟩,
    ⟨some 16, .fa 3 (.s 4), (some (15, false))⟩,
    ⟨some 17, .ldl false false 1 4 (.s 16), (some (15, false))⟩,
    ⟨some 18, .len false (.s 17), (some (15, false))⟩,
    ⟨some 19, .ar .gtr (.s 18) (.c (.int .i64 5000)), (some (15, false))⟩,
    ⟨some 20, .pick (.s 15) (.c (.bool true)) (.s 19), none⟩,
    ⟨some 21, .mv false (.s 20), none⟩,
    ⟨some 22, .mv false (.s 2), (some (21, false))⟩,
    ⟨some 23, .len false (.s 22), (some (21, false))⟩,
    ⟨some 24, .ar .gtr (.s 23) (.c (.int .i64 6000)), (some (21, false))⟩,
    ⟨some 25, .pick (.s 21) (.c (.bool true)) (.s 24), none⟩] [11, 12, 13, 14, 15, 16, 17, 18, 19, 20, 21, 22, 23, 24])
  (.cond (.s 25) (.seq (.reg [⟨some 26, .call 2 n_law11_awake [], none⟩,
    ⟨some 6, .mv false (.s 26), none⟩] [])
  (.ret))
  (.skip)))
  (.seq (.reg [⟨some 27, .mv false (.s 2), none⟩,
    ⟨some 28, .call 0 n_pack_Open [(false, (.s 27))], none⟩,
    ⟨some 29, .mv false (.s 2), none⟩,
    ⟨some 30, .call 0 n_ref02_Open [(false, (.s 29))], none⟩,
    ⟨some 7, .mv false (.s 28), none⟩,
    ⟨some 8, .mv false (.s 30), none⟩] [25, 27, 28, 29, 30])
  (.seq (.reg [⟨some 31, .mv false (.s 7), none⟩,
    ⟨some 32, .call 0 n_record_ReadEntry [(false, (.s 31))], none⟩,
    ⟨some 33, .mv false (.s 8), none⟩,
    ⟨some 34, .call 0 n_ref11_ReadEntry [(false, (.s 33))], none⟩,
    ⟨some 9, .lal [.int .i64 0, .int .i64 0, .int .i64 0, .nils], none⟩,
    ⟨some 10, .lal [.int .i64 0, .int .i64 0, .int .i64 0, .nils], none⟩,
    ⟨none, .stl true 4 9 (.s 9) (.s 32), none⟩,
    ⟨none, .stl true 4 10 (.s 10) (.s 34), none⟩] [31, 32, 33, 34])
  (.seq (.reg [⟨some 35, .ldl false true 4 3 (.s 3), none⟩,
    ⟨some 36, .call 0 n_record_Entry [(false, (.s 35))], none⟩,
    ⟨some 37, .ldl false true 4 3 (.s 3), none⟩,
    ⟨some 38, .call 0 n_ref11_Entry [(false, (.s 37))], none⟩,
    ⟨some 39, .eqb false (.s 36) (.s 38), none⟩,
    ⟨some 40, .mv false (.s 39), none⟩,
    ⟨some 41, .ldl false true 4 3 (.s 3), (some (40, true))⟩,
    ⟨some 42, .ldl false true 4 4 (.s 4), (some (40, true))⟩,
    ⟨some 43, .call 0 n_record_SameEntry [(false, (.s 41)), (false, (.s 42))], (some (40, true))⟩,
    ⟨some 44, .ldl false true 4 3 (.s 3), (some (40, true))⟩,
    ⟨some 45, .ldl false true 4 4 (.s 4), (some (40, true))⟩,
    ⟨some 46, .call 0 n_ref11_SameEntry [(false, (.s 44)), (false, (.s 45))], (some (40, true))⟩,
    ⟨some 47, .eqb false (.s 43) (.s 46), (some (40, true))⟩,
    ⟨some 48, .pick (.s 40) (.s 47) (.c (.bool false)), none⟩,
    ⟨some 49, .mv false (.s 48), none⟩,
    ⟨some 50, .mv false (.s 2), (some (49, true))⟩,
    ⟨some 51, .ldl false true 4 3 (.s 3), (some (49, true))⟩,
    ⟨some 52, .call 0 n_record_PutEntry [(false, (.s 50)), (false, (.s 51))], (some (49, true))⟩,
    ⟨some 53, .mv false (.s 2), (some (49, true))⟩,
    ⟨some 54, .ldl false true 4 3 (.s 3), (some (49, true))⟩,
    ⟨some 55, .call 0 n_ref11_PutEntry [(false, (.s 53)), (false, (.s 54))], (some (49, true))⟩,
    ⟨some 56, .call 0 n_slices_Equal_byte_byte [(false, (.s 52)), (false, (.s 55))], (some (49, true))⟩,
    ⟨some 57, .pick (.s 49) (.s 56) (.c (.bool false)), none⟩,
    ⟨some 58, .mv false (.s 57), none⟩,
    ⟨some 59, .ldl false true 4 9 (.s 9), (some (58, true))⟩,
    ⟨some 60, .ldl false true 4 10 (.s 10), (some (58, true))⟩,
    ⟨some 61, .call 0 n_ref11_SameEntry [(false, (.s 59)), (false, (.s 60))], (some (58, true))⟩,
    ⟨some 62, .pick (.s 58) (.s 61) (.c (.bool false)), none⟩,
    ⟨some 63, .mv false (.s 62), none⟩,
    ⟨some 64, .mv false (.s 7), (some (63, true))⟩,
    ⟨some 65, .call 0 n_pack_Reader_Err [(false, (.s 64))], (some (63, true))⟩,
    ⟨some 66, .mv false (.s 8), (some (63, true))⟩,
    ⟨some 67, .call 0 n_ref02_Reader_Err [(false, (.s 66))], (some (63, true))⟩,
    ⟨some 68, .ar .eql (.s 65) (.s 67), (some (63, true))⟩,
    ⟨some 69, .pick (.s 63) (.s 68) (.c (.bool false)), none⟩,
    ⟨some 70, .mv false (.s 69), none⟩,
    ⟨some 71, .mv false (.s 7), (some (70, true))⟩,
    ⟨some 72, .call 0 n_pack_Reader_Left [(false, (.s 71))], (some (70, true))⟩,
    ⟨some 73, .mv false (.s 8), (some (70, true))⟩,
    ⟨some 74, .call 0 n_ref02_Reader_Left [(false, (.s 73))], (some (70, true))⟩,
    ⟨some 75, .ar .eql (.s 72) (.s 74), (some (70, true))⟩,
    ⟨some 76, .pick (.s 70) (.s 75) (.c (.bool false)), none⟩,
    ⟨some 77, .mv false (.s 76), none⟩,
    ⟨some 78, .call 2 n_law11_awake [], (some (77, true))⟩,
    ⟨some 79, .pick (.s 77) (.s 78) (.c (.bool false)), none⟩,
    ⟨some 6, .mv false (.s 79), none⟩] [])
  (.ret))))), true⟩
/-- bailey/baileylaw11.RecordCodes -/
def tf_law11_RecordCodes : TF := ⟨85, [.tmp 6],
  .seq (.reg [⟨some 3, .lbx true (.s 0), none⟩,
    ⟨some 4, .lbx true (.s 1), none⟩,
    ⟨some 6, .mv false (.c (.bool false)), none⟩] [0, 1, 6])
  (.seq (.seq (.reg [⟨some 15, .ldl false true 10 3 (.s 3), none⟩,
    ⟨some 16, .call 0 n_law11_few [(false, (.s 15))], none⟩,
    ⟨some 17, .not (.s 16), none⟩,
    ⟨some 18, .mv false (.s 17), none⟩,
    ⟨some 19, .ldl false true 10 4 (.s 4), (some (18, false))⟩,
    ⟨some 20, .call 0 n_law11_few [(false, (.s 19))], (some (18, false))⟩,
    ⟨some 21, .not (.s 20), (some (18, false))⟩,
    ⟨some 22, .pick (.s 18) (.c (.bool true)) (.s 21), none⟩,
    ⟨some 23, .mv false (.s 22), none⟩,
    ⟨some 24, .mv false (.s 2), (some (23, false))⟩,
    ⟨some 25, .len false (.s 24), (some (23, false))⟩,
    ⟨some 26, .ar .gtr (.s 25) (.c (.int .i64 6000)), (some (23, false))⟩,
    ⟨some 27, .pick (.s 23) (.c (.bool true)) (.s 26), none⟩] [15, 16, 17, 18, 19, 20, 21, 22, 23, 24, 25, 26])
  (.cond (.s 27) (.seq (.reg [⟨some 28, .call 2 n_law11_awake [], none⟩,
    ⟨some 6, .mv false (.s 28), none⟩] [])
  (.ret))
  (.skip)))
  (.seq (.reg [⟨some 30, .ldl false true 10 3 (.s 3), none⟩,
    ⟨some 31, .call 0 n_record_Encode [(false, (.s 30))], none⟩,
    ⟨some 29, .mv true (.s 31), none⟩,
    ⟨some 32, .ext true 0 (.s 29), none⟩,
    ⟨some 33, .ext false 1 (.s 29), none⟩,
    ⟨some 7, .mv true (.s 32), none⟩,
    ⟨some 8, .mv false (.s 33), none⟩] [27, 29, 30, 31, 32, 33])
  (.seq (.reg [⟨some 35, .ldl false true 10 3 (.s 3), none⟩,
    ⟨some 36, .call 0 n_ref11_Encode [(false, (.s 35))], none⟩,
    ⟨some 34, .mv true (.s 36), none⟩,
    ⟨some 37, .ext true 0 (.s 34), none⟩,
    ⟨some 38, .ext false 1 (.s 34), none⟩,
    ⟨some 9, .mv true (.s 37), none⟩,
    ⟨some 10, .mv false (.s 38), none⟩] [34, 35, 36, 37, 38])
  (.seq (.seq (.reg [⟨some 39, .mv false (.s 8), none⟩,
    ⟨some 40, .mv false (.s 10), none⟩,
    ⟨some 41, .ar .neq (.s 39) (.s 40), none⟩,
    ⟨some 42, .mv false (.s 41), none⟩,
    ⟨some 43, .mv false (.s 7), (some (42, false))⟩,
    ⟨some 44, .mv false (.s 9), (some (42, false))⟩,
    ⟨some 45, .call 0 n_slices_Equal_byte_byte [(false, (.s 43)), (false, (.s 44))], (some (42, false))⟩,
    ⟨some 46, .not (.s 45), (some (42, false))⟩,
    ⟨some 47, .pick (.s 42) (.c (.bool true)) (.s 46), none⟩,
    ⟨some 48, .mv false (.s 47), none⟩,
    ⟨some 49, .ldl false true 10 3 (.s 3), (some (48, false))⟩,
    ⟨some 50, .call 0 n_record_Check [(false, (.s 49))], (some (48, false))⟩,
    ⟨some 51, .ldl false true 10 3 (.s 3), (some (48, false))⟩,
    ⟨some 52, .call 0 n_ref11_Check [(false, (.s 51))], (some (48, false))⟩,
    ⟨some 53, .ar .neq (.s 50) (.s 52), (some (48, false))⟩,
    ⟨some 54, .pick (.s 48) (.c (.bool true)) (.s 53), none⟩,
    ⟨some 55, .mv false (.s 54), none⟩,
    ⟨some 56, .ldl false true 10 3 (.s 3), (some (55, false))⟩,
    ⟨some 57, .ldl false true 10 4 (.s 4), (some (55, false))⟩,
    ⟨some 58, .call 0 n_record_Same [(false, (.s 56)), (false, (.s 57))], (some (55, false))⟩,
    ⟨some 59, .ldl false true 10 3 (.s 3), (some (55, false))⟩,
    ⟨some 60, .ldl false true 10 4 (.s 4), (some (55, false))⟩,
    ⟨some 61, .call 0 n_ref11_Same [(false, (.s 59)), (false, (.s 60))], (some (55, false))⟩,
    ⟨some 62, .eqb true (.s 58) (.s 61), (some (55, false))⟩,
    ⟨some 63, .pick (.s 55) (.c (.bool true)) (.s 62), none⟩] [3, 4, 7, 8, 9, 10, 39, 40, 41, 42, 43, 44, 45, 46, 47, 48, 49, 50, 51, 52, 53, 54, 55, 56, 57, 58, 59, 60, 61, 62])
  (.cond (.s 63) (.seq (.reg [⟨some 6, .mv false (.c (.bool false)), none⟩] [])
  (.ret))
  (.skip)))
  (.seq (.reg [⟨some 65, .mv false (.s 2), none⟩,
    ⟨some 66, .call 0 n_record_Decode [(false, (.s 65))], none⟩,
    ⟨some 64, .mv true (.s 66), none⟩,
    ⟨some 67, .ext true 0 (.s 64), none⟩,
    ⟨some 68, .ext false 1 (.s 64), none⟩,
    ⟨some 11, .lal [.int .i64 0, .int .i64 0, .int .i64 0, .int .i64 0, .int .i64 0, .int .i64 0, .nils, .int .i64 0, .int .i64 0, .nils], none⟩,
    ⟨none, .stl true 10 11 (.s 11) (.s 67), none⟩,
    ⟨some 12, .mv false (.s 68), none⟩] [63, 64, 65, 66, 67, 68])
  (.seq (.reg [⟨some 70, .mv false (.s 2), none⟩,
    ⟨some 71, .call 0 n_ref11_Decode [(false, (.s 70))], none⟩,
    ⟨some 69, .mv true (.s 71), none⟩,
    ⟨some 72, .ext true 0 (.s 69), none⟩,
    ⟨some 73, .ext false 1 (.s 69), none⟩,
    ⟨some 13, .lal [.int .i64 0, .int .i64 0, .int .i64 0, .int .i64 0, .int .i64 0, .int .i64 0, .nils, .int .i64 0, .int .i64 0, .nils], none⟩,
    ⟨none, .stl true 10 13 (.s 13) (.s 72), none⟩,
    ⟨some 14, .mv false (.s 73), none⟩] [2, 69, 70, 71, 72, 73])
  (.seq (.reg [⟨some 74, .mv false (.s 12), none⟩,
    ⟨some 75, .mv false (.s 14), none⟩,
    ⟨some 76, .ar .eql (.s 74) (.s 75), none⟩,
    ⟨some 77, .mv false (.s 76), none⟩,
    ⟨some 78, .ldl false true 10 11 (.s 11), (some (77, true))⟩,
    ⟨some 79, .ldl false true 10 13 (.s 13), (some (77, true))⟩,
    ⟨some 80, .call 0 n_ref11_Same [(false, (.s 78)), (false, (.s 79))], (some (77, true))⟩,
    ⟨some 81, .pick (.s 77) (.s 80) (.c (.bool false)), none⟩,
    ⟨some 82, .mv false (.s 81), none⟩,
    ⟨some 83, .call 2 n_law11_awake [], (some (82, true))⟩,
    ⟨some 84, .pick (.s 82) (.s 83) (.c (.bool false)), none⟩,
    ⟨some 6, .mv false (.s 84), none⟩] [])
  (.ret)))))))), true⟩
/-- bailey/baileylaw11.RecordBack -/
def jn_law11_RecordBack_1 : TC :=
  .seq (.reg [⟨some 62, .call 2 n_law11_awake [], none⟩,
    ⟨some 4, .mv false (.s 62), none⟩] [])
  (.ret)
def jn_law11_RecordBack_2 : TC :=
  .seq (.seq (.reg [⟨some 43, .mv false (.s 1), none⟩,
    ⟨some 44, .call 0 n_record_Decode [(false, (.s 43))], none⟩,
    ⟨some 42, .mv true (.s 44), none⟩,
    ⟨some 45, .ext true 0 (.s 42), none⟩,
    ⟨some 46, .ext false 1 (.s 42), none⟩,
    ⟨some 9, .lal [.int .i64 0, .int .i64 0, .int .i64 0, .int .i64 0, .int .i64 0, .int .i64 0, .nils, .int .i64 0, .int .i64 0, .nils], none⟩,
    ⟨none, .stl true 10 9 (.s 9) (.s 45), none⟩,
    ⟨some 10, .mv false (.s 46), none⟩] [2, 5, 28, 41, 42, 43, 44, 45, 46])
  (.seq (.reg [⟨some 47, .mv false (.s 10), none⟩,
    ⟨some 48, .ar .eql (.s 47) (.c (.int .i64 0)), none⟩] [10, 47])
  (.cond (.s 48) (.seq (.reg [⟨some 50, .ldl false true 10 9 (.s 9), none⟩,
    ⟨some 51, .call 0 n_record_Encode [(false, (.s 50))], none⟩,
    ⟨some 49, .mv true (.s 51), none⟩,
    ⟨some 52, .ext true 0 (.s 49), none⟩,
    ⟨some 53, .ext false 1 (.s 49), none⟩,
    ⟨some 11, .mv true (.s 52), none⟩,
    ⟨some 12, .mv false (.s 53), none⟩] [9, 48, 49, 50, 51, 52, 53])
  (.seq (.reg [⟨some 54, .mv false (.s 12), none⟩,
    ⟨some 55, .ar .neq (.s 54) (.c (.int .i64 0)), none⟩,
    ⟨some 56, .mv false (.s 55), none⟩,
    ⟨some 57, .mv false (.s 11), (some (56, false))⟩,
    ⟨some 58, .mv false (.s 1), (some (56, false))⟩,
    ⟨some 59, .call 0 n_slices_Equal_byte_byte [(false, (.s 57)), (false, (.s 58))], (some (56, false))⟩,
    ⟨some 60, .not (.s 59), (some (56, false))⟩,
    ⟨some 61, .pick (.s 56) (.c (.bool true)) (.s 60), none⟩] [1, 11, 12, 54, 55, 56, 57, 58, 59, 60])
  (.cond (.s 61) (.seq (.reg [⟨some 4, .mv false (.c (.bool false)), none⟩] [])
  (.ret))
  (.skip))))
  (.skip))))
  (jn_law11_RecordBack_1)
def tf_law11_RecordBack : TF := ⟨63, [.tmp 4],
  .seq (.reg [⟨some 2, .lbx true (.s 0), none⟩,
    ⟨some 4, .mv false (.c (.bool false)), none⟩] [0, 4])
  (.seq (.seq (.reg [⟨some 13, .ldl false true 10 2 (.s 2), none⟩,
    ⟨some 14, .call 0 n_law11_few [(false, (.s 13))], none⟩,
    ⟨some 15, .not (.s 14), none⟩,
    ⟨some 16, .mv false (.s 15), none⟩,
    ⟨some 17, .mv false (.s 1), (some (16, false))⟩,
    ⟨some 18, .len false (.s 17), (some (16, false))⟩,
    ⟨some 19, .ar .gtr (.s 18) (.c (.int .i64 6000)), (some (16, false))⟩,
    ⟨some 20, .pick (.s 16) (.c (.bool true)) (.s 19), none⟩] [13, 14, 15, 16, 17, 18, 19])
  (.cond (.s 20) (.seq (.reg [⟨some 21, .call 2 n_law11_awake [], none⟩,
    ⟨some 4, .mv false (.s 21), none⟩] [])
  (.ret))
  (.skip)))
  (.seq (.seq (.reg [⟨some 23, .ldl false true 10 2 (.s 2), none⟩,
    ⟨some 24, .call 0 n_record_Encode [(false, (.s 23))], none⟩,
    ⟨some 22, .mv true (.s 24), none⟩,
    ⟨some 25, .ext true 0 (.s 22), none⟩,
    ⟨some 26, .ext false 1 (.s 22), none⟩,
    ⟨some 5, .mv true (.s 25), none⟩,
    ⟨some 6, .mv false (.s 26), none⟩] [20, 22, 23, 24, 25, 26])
  (.seq (.reg [⟨some 27, .mv false (.s 6), none⟩,
    ⟨some 28, .ar .eql (.s 27) (.c (.int .i64 0)), none⟩] [6, 27])
  (.cond (.s 28) (.seq (.reg [⟨some 30, .mv false (.s 5), none⟩,
    ⟨some 31, .call 0 n_record_Decode [(false, (.s 30))], none⟩,
    ⟨some 29, .mv true (.s 31), none⟩,
    ⟨some 32, .ext true 0 (.s 29), none⟩,
    ⟨some 33, .ext false 1 (.s 29), none⟩,
    ⟨some 7, .lal [.int .i64 0, .int .i64 0, .int .i64 0, .int .i64 0, .int .i64 0, .int .i64 0, .nils, .int .i64 0, .int .i64 0, .nils], none⟩,
    ⟨none, .stl true 10 7 (.s 7) (.s 32), none⟩,
    ⟨some 8, .mv false (.s 33), none⟩] [5, 28, 29, 30, 31, 32, 33])
  (.seq (.reg [⟨some 34, .mv false (.s 8), none⟩,
    ⟨some 35, .ar .neq (.s 34) (.c (.int .i64 0)), none⟩,
    ⟨some 36, .mv false (.s 35), none⟩,
    ⟨some 37, .ldl false true 10 7 (.s 7), (some (36, false))⟩,
    ⟨some 38, .ldl false true 10 2 (.s 2), (some (36, false))⟩,
    ⟨some 39, .call 0 n_record_Same [(false, (.s 37)), (false, (.s 38))], (some (36, false))⟩,
    ⟨some 40, .not (.s 39), (some (36, false))⟩,
    ⟨some 41, .pick (.s 36) (.c (.bool true)) (.s 40), none⟩] [2, 7, 8, 34, 35, 36, 37, 38, 39, 40])
  (.cond (.s 41) (.seq (.reg [⟨some 4, .mv false (.c (.bool false)), none⟩] [])
  (.ret))
  (.skip))))
  (.skip))))
  (jn_law11_RecordBack_2))), true⟩
/-- bailey/baileylaw11.few -/
def tf_law11_few : TF := ⟨14, [.tmp 2],
  .seq (.reg [⟨some 1, .lbx true (.s 0), none⟩,
    ⟨some 2, .mv false (.c (.bool false)), none⟩] [0, 2])
  (.seq (.reg [⟨some 3, .fa 9 (.s 1), none⟩,
    ⟨some 4, .ldl false false 1 1 (.s 3), none⟩,
    ⟨some 5, .len false (.s 4), none⟩,
    ⟨some 6, .ar .leq (.s 5) (.c (.int .i64 131172)), none⟩,
    ⟨some 7, .mv false (.s 6), none⟩,
    ⟨some 8, .fa 3 (.s 1), (some (7, true))⟩,
    ⟨some 9, .fa 3 (.s 8), (some (7, true))⟩,
    ⟨some 10, .ldl false false 1 1 (.s 9), (some (7, true))⟩,
    ⟨some 11, .len false (.s 10), (some (7, true))⟩,
    ⟨some 12, .ar .leq (.s 11) (.c (.int .i64 5000)), (some (7, true))⟩,
    ⟨some 13, .pick (.s 7) (.s 12) (.c (.bool false)), none⟩,
    ⟨some 2, .mv false (.s 13), none⟩] [])
  (.ret)), true⟩
/-- bailey/record.Apply -/
def jn_record_Apply_1 : TC :=
  .seq (.reg [⟨some 71, .ldl true true 7 2 (.s 2), none⟩,
    ⟨none, .stl true 7 4 (.s 4) (.s 71), none⟩,
    ⟨some 5, .mv false (.c (.int .i64 0)), none⟩] [])
  (.ret)
def tf_record_Apply : TF := ⟨72, [.cell 4 true 7, .tmp 5],
  .seq (.reg [⟨some 2, .lbx true (.s 0), none⟩,
    ⟨some 3, .hbx true (.s 1), none⟩,
    ⟨some 4, .lal [.int .i64 0, .int .i64 0, .int .i64 0, .int .i64 0, .int .i64 0, .nils, .nils], none⟩,
    ⟨some 5, .mv false (.c (.int .i64 0)), none⟩] [0, 1, 5])
  (.seq (.seq (.reg [⟨some 8, .ldh false true 10 (.s 3), none⟩,
    ⟨some 9, .call 0 n_record_Check [(false, (.s 8))], none⟩,
    ⟨some 6, .mv false (.s 9), none⟩] [8, 9])
  (.seq (.reg [⟨some 10, .mv false (.s 6), none⟩,
    ⟨some 11, .ar .neq (.s 10) (.c (.int .i64 0)), none⟩] [10])
  (.cond (.s 11) (.seq (.reg [⟨some 12, .ldl true true 7 2 (.s 2), none⟩,
    ⟨some 13, .mv false (.s 6), none⟩,
    ⟨none, .stl true 7 4 (.s 4) (.s 12), none⟩,
    ⟨some 5, .mv false (.s 13), none⟩] [])
  (.ret))
  (.skip))))
  (.seq (.seq (.reg [⟨some 14, .ldl false true 7 2 (.s 2), none⟩,
    ⟨some 15, .ldh false true 10 (.s 3), none⟩,
    ⟨some 16, .call 0 n_record_fits [(false, (.s 14)), (false, (.s 15))], none⟩,
    ⟨some 17, .not (.s 16), none⟩] [6, 11, 14, 15, 16])
  (.cond (.s 17) (.seq (.reg [⟨some 18, .ldl true true 7 2 (.s 2), none⟩,
    ⟨none, .stl true 7 4 (.s 4) (.s 18), none⟩,
    ⟨some 5, .mv false (.c (.int .i64 10)), none⟩] [])
  (.ret))
  (.skip)))
  (.seq (.seq (.reg [⟨some 19, .fa 0 (.s 3), none⟩,
    ⟨some 20, .ldh false false 1 (.s 19), none⟩] [17, 19])
  (.block 0 (.seq (.reg [⟨some 22, .ar .eql (.s 20) (.c (.int .i64 1)), none⟩,
    ⟨some 21, .mv false (.s 22), none⟩] [22])
  (.cond (.s 21) (.seq (.reg [⟨some 23, .fa 7 (.s 3), none⟩,
    ⟨some 24, .ldh false false 1 (.s 23), none⟩,
    ⟨some 25, .fa 1 (.s 3), none⟩,
    ⟨some 26, .ldh false false 1 (.s 25), none⟩,
    ⟨some 27, .fa 8 (.s 3), none⟩,
    ⟨some 28, .ldh false false 1 (.s 27), none⟩,
    ⟨some 29, .fa 9 (.s 3), none⟩,
    ⟨some 30, .ldh false false 1 (.s 29), none⟩,
    ⟨some 31, .call 5 n_slices_Clone_byte_byte [(false, (.s 30))], none⟩,
    ⟨some 32, .fa 2 (.s 2), none⟩,
    ⟨none, .stl false 1 2 (.s 32) (.s 24), none⟩,
    ⟨some 33, .fa 3 (.s 2), none⟩,
    ⟨none, .stl false 1 2 (.s 33) (.s 26), none⟩,
    ⟨some 34, .fa 4 (.s 2), none⟩,
    ⟨none, .stl false 1 2 (.s 34) (.s 28), none⟩,
    ⟨some 35, .fa 5 (.s 2), none⟩,
    ⟨none, .stl true 1 2 (.s 35) (.s 31), none⟩] [20, 21, 23, 24, 25, 26, 27, 28, 29, 30, 31, 32, 33, 34, 35])
  (.reg [⟨some 36, .fa 6 (.s 2), none⟩,
    ⟨some 37, .ldl false false 1 2 (.s 36), none⟩,
    ⟨some 38, .mkf n_record_Apply_1 [(.s 3)], none⟩,
    ⟨some 39, .call 0 n_record_without [(false, (.s 37)), (false, (.s 38))], none⟩,
    ⟨some 40, .fa 6 (.s 2), none⟩,
    ⟨none, .stl true 1 2 (.s 40) (.s 39), none⟩] [3, 36, 37, 38, 39, 40]))
  (.seq (.reg [⟨some 42, .ar .eql (.s 20) (.c (.int .i64 2)), none⟩,
    ⟨some 41, .mv false (.s 42), none⟩] [21, 42])
  (.cond (.s 41) (.reg [⟨some 43, .fa 1 (.s 3), none⟩,
    ⟨some 44, .ldh false false 1 (.s 43), none⟩,
    ⟨some 45, .fa 2 (.s 3), none⟩,
    ⟨some 46, .ldh false false 1 (.s 45), none⟩,
    ⟨some 47, .fa 0 (.s 2), none⟩,
    ⟨none, .stl false 1 2 (.s 47) (.s 44), none⟩,
    ⟨some 48, .fa 1 (.s 2), none⟩,
    ⟨none, .stl false 1 2 (.s 48) (.s 46), none⟩] [3, 20, 41, 43, 44, 45, 46, 47, 48])
  (.seq (.reg [⟨some 50, .ar .eql (.s 20) (.c (.int .i64 3)), none⟩,
    ⟨some 49, .mv false (.s 50), none⟩] [41, 50])
  (.cond (.s 49) (.seq (.reg [⟨some 51, .fa 3 (.s 3), none⟩,
    ⟨some 52, .ldh false true 4 (.s 51), none⟩,
    ⟨some 7, .lal [.int .i64 0, .int .i64 0, .int .i64 0, .nils], none⟩,
    ⟨none, .stl true 4 7 (.s 7) (.s 52), none⟩] [3, 20, 49, 51, 52])
  (.seq (.reg [⟨some 53, .fa 3 (.s 7), none⟩,
    ⟨some 54, .ldl false false 1 7 (.s 53), none⟩,
    ⟨some 55, .call 3 n_slices_Clone_byte_byte [(false, (.s 54))], none⟩,
    ⟨some 56, .fa 3 (.s 7), none⟩,
    ⟨none, .stl true 1 7 (.s 56) (.s 55), none⟩] [53, 54, 55, 56])
  (.reg [⟨some 57, .fa 6 (.s 2), none⟩,
    ⟨some 58, .ldl false false 1 2 (.s 57), none⟩,
    ⟨some 59, .call 3 n_slices_Clone_api_Entry_api_Entry [(false, (.s 58))], none⟩,
    ⟨some 60, .ldl false true 4 7 (.s 7), none⟩,
    ⟨some 61, .bsl true 4 1 [.int .i64 0, .int .i64 0, .int .i64 0, .nils] [(0, (.s 60))], none⟩,
    ⟨some 62, .app true 4 48 (.s 59) (.s 61), none⟩,
    ⟨some 63, .fa 6 (.s 2), none⟩,
    ⟨none, .stl true 1 2 (.s 63) (.s 62), none⟩] [7, 57, 58, 59, 60, 61, 62, 63])))
  (.seq (.reg [⟨some 65, .ar .eql (.s 20) (.c (.int .i64 4)), none⟩,
    ⟨some 64, .mv false (.s 65), none⟩] [20, 49, 65])
  (.cond (.s 64) (.reg [⟨some 66, .fa 6 (.s 2), none⟩,
    ⟨some 67, .ldl false false 1 2 (.s 66), none⟩,
    ⟨some 68, .mkf n_record_Apply_2 [(.s 3)], none⟩,
    ⟨some 69, .call 0 n_record_without [(false, (.s 67)), (false, (.s 68))], none⟩,
    ⟨some 70, .fa 6 (.s 2), none⟩,
    ⟨none, .stl true 1 2 (.s 70) (.s 69), none⟩] [3, 64, 66, 67, 68, 69, 70])
  (.skip)))))))))))
  (jn_record_Apply_1)))), true⟩
/-- bailey/baileylaw11.awake -/
def tf_law11_awake : TF := ⟨15, [.tmp 0],
  .seq (.reg [⟨some 0, .mv false (.c (.bool false)), none⟩] [])
  (.seq (.reg [⟨some 4, .build [.int .i64 0, .int .i64 0, .int .i64 0, .int .i64 0, .int .i64 0, .int .i64 0, .nils, .int .i64 0, .int .i64 0, .nils] [(0, 1, (.c (.int .i64 2))), (1, 1, (.c (.int .i64 3))), (2, 1, (.c (.int .i64 2)))], none⟩,
    ⟨some 5, .call 0 n_record_Encode [(false, (.s 4))], none⟩,
    ⟨some 3, .mv true (.s 5), none⟩,
    ⟨some 6, .ext true 0 (.s 3), none⟩,
    ⟨some 7, .ext false 1 (.s 3), none⟩,
    ⟨some 1, .mv true (.s 6), none⟩,
    ⟨some 2, .mv false (.s 7), none⟩] [0, 3, 4, 5, 6, 7])
  (.seq (.reg [⟨some 8, .mv false (.s 2), none⟩,
    ⟨some 9, .ar .eql (.s 8) (.c (.int .i64 0)), none⟩,
    ⟨some 10, .mv false (.s 9), none⟩,
    ⟨some 11, .mv false (.s 1), (some (10, true))⟩,
    ⟨some 12, .bsl false 1 3 [.int .u8 0] [(0, (.c (.int .u8 2))), (1, (.c (.int .u8 3))), (2, (.c (.int .u8 2)))], (some (10, true))⟩,
    ⟨some 13, .call 0 n_slices_Equal_byte_byte [(false, (.s 11)), (false, (.s 12))], (some (10, true))⟩,
    ⟨some 14, .pick (.s 10) (.s 13) (.c (.bool false)), none⟩,
    ⟨some 0, .mv false (.s 14), none⟩] [])
  (.ret))), true⟩
/-- bailey/baileylaw13.awake -/
def tf_law13_awake : TF := ⟨33, [.tmp 0],
  .seq (.reg [⟨some 0, .mv false (.c (.bool false)), none⟩] [])
  (.seq (.reg [⟨some 2, .build [.int .i64 0, .int .i64 0, .int .i64 0, .nils] [(0, 1, (.c (.int .i64 4))), (1, 1, (.c (.int .i64 1)))], none⟩,
    ⟨some 3, .build [.int .i64 0, .int .i64 0, .int .i64 0, .nils] [(0, 1, (.c (.int .i64 5))), (1, 1, (.c (.int .i64 2)))], none⟩,
    ⟨some 4, .bsl true 4 2 [.int .i64 0, .int .i64 0, .int .i64 0, .nils] [(0, (.s 2)), (1, (.s 3))], none⟩,
    ⟨some 5, .call 0 n_rlog_New [(false, (.c (.int .i64 3))), (false, (.c (.int .i64 1))), (false, (.c (.int .i64 7))), (false, (.s 4))], none⟩,
    ⟨some 1, .mv false (.s 5), none⟩] [0, 2, 3, 4, 5])
  (.seq (.reg [⟨some 6, .mv false (.s 1), none⟩,
    ⟨some 7, .eqp true (.s 6) (.c (.nilp)), none⟩,
    ⟨some 8, .mv false (.s 7), none⟩,
    ⟨some 9, .mv false (.s 1), (some (8, true))⟩,
    ⟨some 10, .call 0 n_rlog_Log_Last [(false, (.s 9))], (some (8, true))⟩,
    ⟨some 11, .ar .eql (.s 10) (.c (.int .i64 5)), (some (8, true))⟩,
    ⟨some 12, .pick (.s 8) (.s 11) (.c (.bool false)), none⟩,
    ⟨some 13, .mv false (.s 12), none⟩,
    ⟨some 14, .mv false (.s 1), (some (13, true))⟩,
    ⟨some 15, .call 0 n_rlog_Log_Cut [(false, (.s 14)), (false, (.c (.int .i64 4)))], (some (13, true))⟩,
    ⟨some 16, .ar .eql (.s 15) (.c (.int .i64 0)), (some (13, true))⟩,
    ⟨some 17, .pick (.s 13) (.s 16) (.c (.bool false)), none⟩,
    ⟨some 18, .mv false (.s 17), none⟩,
    ⟨some 19, .mv false (.s 1), (some (18, true))⟩,
    ⟨some 20, .call 0 n_rlog_Log_Last [(false, (.s 19))], (some (18, true))⟩,
    ⟨some 21, .ar .eql (.s 20) (.c (.int .i64 3)), (some (18, true))⟩,
    ⟨some 22, .pick (.s 18) (.s 21) (.c (.bool false)), none⟩,
    ⟨some 23, .mv false (.s 22), none⟩,
    ⟨some 24, .mv false (.s 1), (some (23, true))⟩,
    ⟨some 25, .call 0 n_rlog_Log_LastTerm [(false, (.s 24))], (some (23, true))⟩,
    ⟨some 26, .ar .eql (.s 25) (.c (.int .i64 1)), (some (23, true))⟩,
    ⟨some 27, .pick (.s 23) (.s 26) (.c (.bool false)), none⟩,
    ⟨some 28, .mv false (.s 27), none⟩,
    ⟨some 29, .mv false (.s 1), (some (28, true))⟩,
    ⟨some 30, .call 0 n_rlog_Log_Cut [(false, (.s 29)), (false, (.c (.int .i64 3)))], (some (28, true))⟩,
    ⟨some 31, .ar .eql (.s 30) (.c (.int .i64 10)), (some (28, true))⟩,
    ⟨some 32, .pick (.s 28) (.s 31) (.c (.bool false)), none⟩,
    ⟨some 0, .mv false (.s 32), none⟩] [])
  (.ret))), true⟩
/-- bailey/rlog.ConfOf -/
def tf_rlog_ConfOf : TF := ⟨13, [.tmp 2],
  .seq (.reg [⟨some 2, .mv false (.c (.int .i64 0)), none⟩] [2])
  (.seq (.reg [⟨some 5, .mv true (.s 0), none⟩,
    ⟨some 6, .call 0 n_pack_Open [(false, (.s 5))], none⟩,
    ⟨some 3, .mv false (.s 6), none⟩] [0, 5, 6])
  (.seq (.reg [⟨some 7, .mv false (.s 3), none⟩,
    ⟨some 8, .call 0 n_pack_Reader_Num [(false, (.s 7)), (false, (.c (.int .i64 127)))], none⟩,
    ⟨some 4, .mv false (.s 8), none⟩] [7, 8])
  (.seq (.seq (.reg [⟨some 9, .mv false (.s 3), none⟩,
    ⟨some 10, .call 0 n_pack_Reader_End [(false, (.s 9))], none⟩,
    ⟨some 11, .ar .neq (.s 10) (.c (.int .i64 0)), none⟩] [3, 9, 10])
  (.cond (.s 11) (.seq (.reg [⟨some 2, .mv false (.c (.int .i64 0)), none⟩] [])
  (.ret))
  (.skip)))
  (.seq (.reg [⟨some 12, .mv false (.s 4), none⟩,
    ⟨some 2, .mv false (.s 12), none⟩] [])
  (.ret))))), true⟩
/-- bailey/rlog.ConfData -/
def tf_rlog_ConfData : TF := ⟨5, [.tmp 2],
  .seq (.reg [⟨some 2, .mv true (.c (.nils)), none⟩] [2])
  (.seq (.reg [⟨some 3, .mv false (.s 0), none⟩,
    ⟨some 4, .call 0 n_pack_Num [(false, (.c (.nils))), (false, (.s 3))], none⟩,
    ⟨some 2, .mv true (.s 4), none⟩] [])
  (.ret)), true⟩
/-- slices.Equal[[]byte,byte] -/
def lp_slices_Equal_byte_byte_1 : TC :=
  .seq (.reg [⟨some 14, .ar .lss (.s 13) (.s 12), none⟩] [])
  (.seq (.cond (.s 14) (.skip)
  (.exit 0))
  (.seq (.block 1 (.seq (.reg [⟨some 15, .mv false (.s 13), none⟩,
    ⟨some 5, .mv false (.s 15), none⟩] [14, 15])
  (.seq (.reg [⟨some 16, .mv false (.s 0), none⟩,
    ⟨some 17, .mv false (.s 5), none⟩,
    ⟨some 18, .ia 1 (.s 16) (.s 17), none⟩,
    ⟨some 19, .ldh false false 1 (.s 18), none⟩,
    ⟨some 20, .mv false (.s 1), none⟩,
    ⟨some 21, .mv false (.s 5), none⟩,
    ⟨some 22, .ia 1 (.s 20) (.s 21), none⟩,
    ⟨some 23, .ldh false false 1 (.s 22), none⟩,
    ⟨some 24, .ar .neq (.s 19) (.s 23), none⟩] [5, 16, 17, 18, 19, 20, 21, 22, 23])
  (.cond (.s 24) (.seq (.reg [⟨some 4, .mv false (.c (.bool false)), none⟩] [])
  (.ret))
  (.skip)))))
  (.reg [⟨some 25, .ar .add (.s 13) (.c (.int .i64 1)), none⟩,
    ⟨some 13, .mv false (.s 25), none⟩] [24, 25])))
def tf_slices_Equal_byte_byte : TF := ⟨26, [.tmp 4],
  .seq (.reg [⟨some 4, .mv false (.c (.bool false)), none⟩] [4, 5, 13, 14, 15, 16, 17, 18, 19, 20, 21, 22, 23, 24, 25])
  (.seq (.seq (.reg [⟨some 6, .mv false (.s 0), none⟩,
    ⟨some 7, .len false (.s 6), none⟩,
    ⟨some 8, .mv false (.s 1), none⟩,
    ⟨some 9, .len false (.s 8), none⟩,
    ⟨some 10, .ar .neq (.s 7) (.s 9), none⟩] [6, 7, 8, 9])
  (.cond (.s 10) (.seq (.reg [⟨some 4, .mv false (.c (.bool false)), none⟩] [])
  (.ret))
  (.skip)))
  (.seq (.seq (.reg [⟨some 11, .mv false (.s 0), none⟩,
    ⟨some 12, .len false (.s 11), none⟩,
    ⟨some 13, .mv false (.c (.int .i64 0)), none⟩] [10, 11])
  (.block 0 (.loop lp_slices_Equal_byte_byte_1)))
  (.seq (.reg [⟨some 4, .mv false (.c (.bool true)), none⟩] [])
  (.ret)))), true⟩
/-- bailey/baileyref13.ConfData -/
def tf_ref13_ConfData : TF := ⟨5, [.tmp 2],
  .seq (.reg [⟨some 2, .mv true (.c (.nils)), none⟩] [2])
  (.seq (.reg [⟨some 3, .mv false (.s 0), none⟩,
    ⟨some 4, .call 0 n_ref02_Num [(false, (.c (.nils))), (false, (.s 3))], none⟩,
    ⟨some 2, .mv true (.s 4), none⟩] [])
  (.ret)), true⟩
/-- bailey/baileyref13.ConfOf -/
def tf_ref13_ConfOf : TF := ⟨13, [.tmp 2],
  .seq (.reg [⟨some 2, .mv false (.c (.int .i64 0)), none⟩] [2])
  (.seq (.reg [⟨some 5, .mv true (.s 0), none⟩,
    ⟨some 6, .call 0 n_ref02_Open [(false, (.s 5))], none⟩,
    ⟨some 3, .mv false (.s 6), none⟩] [0, 5, 6])
  (.seq (.reg [⟨some 7, .mv false (.s 3), none⟩,
    ⟨some 8, .call 0 n_ref02_Reader_Num [(false, (.s 7)), (false, (.c (.int .i64 127)))], none⟩,
    ⟨some 4, .mv false (.s 8), none⟩] [7, 8])
  (.seq (.seq (.reg [⟨some 9, .mv false (.s 3), none⟩,
    ⟨some 10, .call 0 n_ref02_Reader_End [(false, (.s 9))], none⟩,
    ⟨some 11, .ar .neq (.s 10) (.c (.int .i64 0)), none⟩] [3, 9, 10])
  (.cond (.s 11) (.seq (.reg [⟨some 2, .mv false (.c (.int .i64 0)), none⟩] [])
  (.ret))
  (.skip)))
  (.seq (.reg [⟨some 12, .mv false (.s 4), none⟩,
    ⟨some 2, .mv false (.s 12), none⟩] [])
  (.ret))))), true⟩
/-- bailey/baileylaw11.fewSaved -/
def lp_law11_fewSaved_1 : TC :=
  .seq (.reg [⟨some 9, .ar .lss (.s 8) (.s 7), none⟩] [])
  (.seq (.cond (.s 9) (.skip)
  (.exit 0))
  (.seq (.block 1 (.seq (.reg [⟨some 10, .mv false (.s 8), none⟩,
    ⟨some 11, .ia 4 (.s 6) (.s 8), none⟩,
    ⟨some 12, .ldh false true 4 (.s 11), none⟩,
    ⟨some 4, .lal [.int .i64 0, .int .i64 0, .int .i64 0, .nils], none⟩,
    ⟨some 3, .mv false (.s 10), none⟩,
    ⟨none, .stl true 4 4 (.s 4) (.s 12), none⟩] [9, 10, 11, 12])
  (.seq (.reg [⟨some 13, .mv false (.s 3), none⟩,
    ⟨some 14, .ar .geq (.s 13) (.c (.int .i64 60)), none⟩,
    ⟨some 15, .mv false (.s 14), none⟩,
    ⟨some 16, .fa 3 (.s 4), (some (15, false))⟩,
    ⟨some 17, .ldl false false 1 4 (.s 16), (some (15, false))⟩,
    ⟨some 18, .len false (.s 17), (some (15, false))⟩,
    ⟨some 19, .ar .gtr (.s 18) (.c (.int .i64 300)), (some (15, false))⟩,
    ⟨some 20, .pick (.s 15) (.c (.bool true)) (.s 19), none⟩] [3, 4, 13, 14, 15, 16, 17, 18, 19])
  (.cond (.s 20) (.seq (.reg [⟨some 2, .mv false (.c (.bool false)), none⟩] [])
  (.ret))
  (.skip)))))
  (.reg [⟨some 21, .ar .add (.s 8) (.c (.int .i64 1)), none⟩,
    ⟨some 8, .mv false (.s 21), none⟩] [20, 21])))
def tf_law11_fewSaved : TF := ⟨26, [.tmp 2],
  .seq (.reg [⟨some 1, .lbx true (.s 0), none⟩,
    ⟨some 2, .mv false (.c (.bool false)), none⟩] [0, 2, 3, 4, 8, 9, 10, 11, 12, 13, 14, 15, 16, 17, 18, 19, 20, 21])
  (.seq (.seq (.reg [⟨some 5, .fa 6 (.s 1), none⟩,
    ⟨some 6, .ldl false false 1 1 (.s 5), none⟩,
    ⟨some 7, .len false (.s 6), none⟩,
    ⟨some 8, .mv false (.c (.int .i64 0)), none⟩] [5])
  (.block 0 (.loop lp_law11_fewSaved_1)))
  (.seq (.reg [⟨some 22, .fa 5 (.s 1), none⟩,
    ⟨some 23, .ldl false false 1 1 (.s 22), none⟩,
    ⟨some 24, .len false (.s 23), none⟩,
    ⟨some 25, .ar .leq (.s 24) (.c (.int .i64 3000)), none⟩,
    ⟨some 2, .mv false (.s 25), none⟩] [])
  (.ret))), true⟩
/-- bailey/baileyref11.Apply -/
def lp_ref11_Apply_1 : TC :=
  .seq (.seq (.reg [⟨some 51, .mv false (.s 7), none⟩,
    ⟨some 52, .fa 6 (.s 2), none⟩,
    ⟨some 53, .ldl false false 1 2 (.s 52), none⟩,
    ⟨some 54, .len false (.s 53), none⟩,
    ⟨some 55, .ar .lss (.s 51) (.s 54), none⟩] [51, 52, 53, 54])
  (.cond (.s 55) (.skip)
  (.exit 0)))
  (.seq (.block 1 (.seq (.reg [⟨some 58, .fa 6 (.s 2), none⟩,
    ⟨some 59, .ldl false false 1 2 (.s 58), none⟩,
    ⟨some 60, .mv false (.s 7), none⟩,
    ⟨some 61, .ia 4 (.s 59) (.s 60), none⟩,
    ⟨some 62, .ldh false true 4 (.s 61), none⟩,
    ⟨some 8, .lal [.int .i64 0, .int .i64 0, .int .i64 0, .nils], none⟩,
    ⟨none, .stl true 4 8 (.s 8) (.s 62), none⟩] [55, 58, 59, 60, 61, 62])
  (.seq (.reg [⟨some 63, .fa 0 (.s 3), none⟩,
    ⟨some 64, .ldl false false 1 3 (.s 63), none⟩,
    ⟨some 65, .ar .neq (.s 64) (.c (.int .i64 1)), none⟩,
    ⟨some 66, .mv false (.s 65), none⟩,
    ⟨some 67, .fa 0 (.s 8), (some (66, false))⟩,
    ⟨some 68, .ldl false false 1 8 (.s 67), (some (66, false))⟩,
    ⟨some 69, .fa 7 (.s 3), (some (66, false))⟩,
    ⟨some 70, .ldl false false 1 3 (.s 69), (some (66, false))⟩,
    ⟨some 71, .ar .gtr (.s 68) (.s 70), (some (66, false))⟩,
    ⟨some 72, .pick (.s 66) (.c (.bool true)) (.s 71), none⟩,
    ⟨some 73, .mv false (.s 72), none⟩,
    ⟨some 74, .fa 0 (.s 3), (some (73, true))⟩,
    ⟨some 75, .ldl false false 1 3 (.s 74), (some (73, true))⟩,
    ⟨some 76, .ar .neq (.s 75) (.c (.int .i64 4)), (some (73, true))⟩,
    ⟨some 77, .mv false (.s 76), (some (73, true))⟩,
    ⟨some 78, .fa 0 (.s 8), (some (77, false))⟩,
    ⟨some 79, .ldl false false 1 8 (.s 78), (some (77, false))⟩,
    ⟨some 80, .fa 7 (.s 3), (some (77, false))⟩,
    ⟨some 81, .ldl false false 1 3 (.s 80), (some (77, false))⟩,
    ⟨some 82, .ar .lss (.s 79) (.s 81), (some (77, false))⟩,
    ⟨some 83, .pick (.s 77) (.c (.bool true)) (.s 82), (some (73, true))⟩,
    ⟨some 84, .pick (.s 73) (.s 83) (.c (.bool false)), none⟩] [63, 64, 65, 66, 67, 68, 69, 70, 71, 72, 73, 74, 75, 76, 77, 78, 79, 80, 81, 82, 83])
  (.cond (.s 84) (.reg [⟨some 85, .mv true (.s 6), none⟩,
    ⟨some 86, .ldl false true 4 8 (.s 8), none⟩,
    ⟨some 87, .bsl true 4 1 [.int .i64 0, .int .i64 0, .int .i64 0, .nils] [(0, (.s 86))], none⟩,
    ⟨some 88, .app true 4 48 (.s 85) (.s 87), none⟩,
    ⟨some 6, .mv true (.s 88), none⟩] [8, 84, 85, 86, 87, 88])
  (.skip)))))
  (.reg [⟨some 56, .mv false (.s 7), none⟩,
    ⟨some 57, .ar .add (.s 56) (.c (.int .i64 1)), none⟩,
    ⟨some 7, .mv false (.s 57), none⟩] [8, 56, 57, 84]))
def jn_ref11_Apply_2 : TC :=
  .seq (.reg [⟨some 126, .mv false (.s 6), none⟩,
    ⟨some 127, .fa 6 (.s 2), none⟩,
    ⟨none, .stl true 1 2 (.s 127) (.s 126), none⟩] [3, 6, 114, 126, 127])
  (.seq (.reg [⟨some 128, .ldl true true 7 2 (.s 2), none⟩,
    ⟨none, .stl true 7 4 (.s 4) (.s 128), none⟩,
    ⟨some 5, .mv false (.c (.int .i64 0)), none⟩] [])
  (.ret))
def tf_ref11_Apply : TF := ⟨129, [.cell 4 true 7, .tmp 5],
  .seq (.reg [⟨some 2, .lbx true (.s 0), none⟩,
    ⟨some 3, .lbx true (.s 1), none⟩,
    ⟨some 4, .lal [.int .i64 0, .int .i64 0, .int .i64 0, .int .i64 0, .int .i64 0, .nils, .nils], none⟩,
    ⟨some 5, .mv false (.c (.int .i64 0)), none⟩] [0, 1, 5, 6, 7, 8, 51, 52, 53, 54, 55, 56, 57, 58, 59, 60, 61, 62, 63, 64, 65, 66, 67, 68, 69, 70, 71, 72, 73, 74, 75, 76, 77, 78, 79, 80, 81, 82, 83, 84, 85, 86, 87, 88])
  (.seq (.seq (.reg [⟨some 10, .ldl false true 10 3 (.s 3), none⟩,
    ⟨some 11, .call 0 n_ref11_Check [(false, (.s 10))], none⟩,
    ⟨some 12, .ar .neq (.s 11) (.c (.int .i64 0)), none⟩] [10, 11])
  (.cond (.s 12) (.seq (.reg [⟨some 13, .ldl true true 7 2 (.s 2), none⟩,
    ⟨none, .stl true 7 4 (.s 4) (.s 13), none⟩,
    ⟨some 5, .mv false (.c (.int .i64 1)), none⟩] [])
  (.ret))
  (.skip)))
  (.seq (.seq (.reg [⟨some 14, .fa 0 (.s 3), none⟩,
    ⟨some 15, .ldl false false 1 3 (.s 14), none⟩,
    ⟨some 16, .ar .eql (.s 15) (.c (.int .i64 3)), none⟩,
    ⟨some 17, .mv false (.s 16), none⟩,
    ⟨some 18, .fa 3 (.s 3), (some (17, true))⟩,
    ⟨some 19, .fa 0 (.s 18), (some (17, true))⟩,
    ⟨some 20, .ldl false false 1 3 (.s 19), (some (17, true))⟩,
    ⟨some 21, .ar .sub (.s 20) (.c (.int .i64 1)), (some (17, true))⟩,
    ⟨some 22, .ldl false true 7 2 (.s 2), (some (17, true))⟩,
    ⟨some 23, .call 0 n_ref11_last [(false, (.s 22))], (some (17, true))⟩,
    ⟨some 24, .ar .neq (.s 21) (.s 23), (some (17, true))⟩,
    ⟨some 25, .pick (.s 17) (.s 24) (.c (.bool false)), none⟩,
    ⟨some 26, .mv false (.s 25), none⟩,
    ⟨some 27, .fa 0 (.s 3), (some (26, false))⟩,
    ⟨some 28, .ldl false false 1 3 (.s 27), (some (26, false))⟩,
    ⟨some 29, .ar .eql (.s 28) (.c (.int .i64 4)), (some (26, false))⟩,
    ⟨some 30, .mv false (.s 29), (some (26, false))⟩,
    ⟨some 31, .fa 7 (.s 3), (some (30, true))⟩,
    ⟨some 32, .ldl false false 1 3 (.s 31), (some (30, true))⟩,
    ⟨some 33, .fa 2 (.s 2), (some (30, true))⟩,
    ⟨some 34, .ldl false false 1 2 (.s 33), (some (30, true))⟩,
    ⟨some 35, .ar .leq (.s 32) (.s 34), (some (30, true))⟩,
    ⟨some 36, .pick (.s 30) (.s 35) (.c (.bool false)), (some (26, false))⟩,
    ⟨some 37, .pick (.s 26) (.c (.bool true)) (.s 36), none⟩,
    ⟨some 38, .mv false (.s 37), none⟩,
    ⟨some 39, .fa 0 (.s 3), (some (38, false))⟩,
    ⟨some 40, .ldl false false 1 3 (.s 39), (some (38, false))⟩,
    ⟨some 41, .ar .eql (.s 40) (.c (.int .i64 1)), (some (38, false))⟩,
    ⟨some 42, .mv false (.s 41), (some (38, false))⟩,
    ⟨some 43, .fa 7 (.s 3), (some (42, true))⟩,
    ⟨some 44, .ldl false false 1 3 (.s 43), (some (42, true))⟩,
    ⟨some 45, .fa 2 (.s 2), (some (42, true))⟩,
    ⟨some 46, .ldl false false 1 2 (.s 45), (some (42, true))⟩,
    ⟨some 47, .ar .lss (.s 44) (.s 46), (some (42, true))⟩,
    ⟨some 48, .pick (.s 42) (.s 47) (.c (.bool false)), (some (38, false))⟩,
    ⟨some 49, .pick (.s 38) (.c (.bool true)) (.s 48), none⟩] [12, 14, 15, 16, 17, 18, 19, 20, 21, 22, 23, 24, 25, 26, 27, 28, 29, 30, 31, 32, 33, 34, 35, 36, 37, 38, 39, 40, 41, 42, 43, 44, 45, 46, 47, 48])
  (.cond (.s 49) (.seq (.reg [⟨some 50, .ldl true true 7 2 (.s 2), none⟩,
    ⟨none, .stl true 7 4 (.s 4) (.s 50), none⟩,
    ⟨some 5, .mv false (.c (.int .i64 10)), none⟩] [])
  (.ret))
  (.skip)))
  (.seq (.reg [⟨some 6, .mv true (.c (.nils)), none⟩] [49])
  (.seq (.seq (.reg [⟨some 7, .mv false (.c (.int .i64 0)), none⟩] [])
  (.block 0 (.loop lp_ref11_Apply_1)))
  (.seq (.seq (.reg [⟨some 89, .fa 0 (.s 3), none⟩,
    ⟨some 90, .ldl false false 1 3 (.s 89), none⟩] [7, 55, 89])
  (.block 2 (.seq (.reg [⟨some 92, .ar .eql (.s 90) (.c (.int .i64 1)), none⟩,
    ⟨some 91, .mv false (.s 92), none⟩] [92])
  (.cond (.s 91) (.reg [⟨some 93, .fa 7 (.s 3), none⟩,
    ⟨some 94, .ldl false false 1 3 (.s 93), none⟩,
    ⟨some 95, .fa 1 (.s 3), none⟩,
    ⟨some 96, .ldl false false 1 3 (.s 95), none⟩,
    ⟨some 97, .fa 8 (.s 3), none⟩,
    ⟨some 98, .ldl false false 1 3 (.s 97), none⟩,
    ⟨some 99, .fa 9 (.s 3), none⟩,
    ⟨some 100, .ldl false false 1 3 (.s 99), none⟩,
    ⟨some 101, .app true 1 1 (.c (.nils)) (.s 100), none⟩,
    ⟨some 102, .fa 2 (.s 2), none⟩,
    ⟨none, .stl false 1 2 (.s 102) (.s 94), none⟩,
    ⟨some 103, .fa 3 (.s 2), none⟩,
    ⟨none, .stl false 1 2 (.s 103) (.s 96), none⟩,
    ⟨some 104, .fa 4 (.s 2), none⟩,
    ⟨none, .stl false 1 2 (.s 104) (.s 98), none⟩,
    ⟨some 105, .fa 5 (.s 2), none⟩,
    ⟨none, .stl true 1 2 (.s 105) (.s 101), none⟩] [3, 90, 91, 93, 94, 95, 96, 97, 98, 99, 100, 101, 102, 103, 104, 105])
  (.seq (.reg [⟨some 107, .ar .eql (.s 90) (.c (.int .i64 2)), none⟩,
    ⟨some 106, .mv false (.s 107), none⟩] [91, 107])
  (.cond (.s 106) (.reg [⟨some 108, .fa 1 (.s 3), none⟩,
    ⟨some 109, .ldl false false 1 3 (.s 108), none⟩,
    ⟨some 110, .fa 2 (.s 3), none⟩,
    ⟨some 111, .ldl false false 1 3 (.s 110), none⟩,
    ⟨some 112, .fa 0 (.s 2), none⟩,
    ⟨none, .stl false 1 2 (.s 112) (.s 109), none⟩,
    ⟨some 113, .fa 1 (.s 2), none⟩,
    ⟨none, .stl false 1 2 (.s 113) (.s 111), none⟩] [3, 90, 106, 108, 109, 110, 111, 112, 113])
  (.seq (.reg [⟨some 115, .ar .eql (.s 90) (.c (.int .i64 3)), none⟩,
    ⟨some 114, .mv false (.s 115), none⟩] [90, 106, 115])
  (.cond (.s 114) (.seq (.reg [⟨some 116, .fa 3 (.s 3), none⟩,
    ⟨some 117, .ldl true true 4 3 (.s 116), none⟩,
    ⟨some 9, .lal [.int .i64 0, .int .i64 0, .int .i64 0, .nils], none⟩,
    ⟨none, .stl true 4 9 (.s 9) (.s 117), none⟩] [3, 114, 116, 117])
  (.seq (.reg [⟨some 118, .fa 3 (.s 9), none⟩,
    ⟨some 119, .ldl false false 1 9 (.s 118), none⟩,
    ⟨some 120, .app true 1 1 (.c (.nils)) (.s 119), none⟩,
    ⟨some 121, .fa 3 (.s 9), none⟩,
    ⟨none, .stl true 1 9 (.s 121) (.s 120), none⟩] [118, 119, 120, 121])
  (.reg [⟨some 122, .mv true (.s 6), none⟩,
    ⟨some 123, .ldl false true 4 9 (.s 9), none⟩,
    ⟨some 124, .bsl true 4 1 [.int .i64 0, .int .i64 0, .int .i64 0, .nils] [(0, (.s 123))], none⟩,
    ⟨some 125, .app true 4 48 (.s 122) (.s 124), none⟩,
    ⟨some 6, .mv true (.s 125), none⟩] [9, 122, 123, 124, 125])))
  (.skip)))))))))
  (jn_ref11_Apply_2)))))), true⟩
/-- bailey/baileyref11.SameSaved -/
def lp_ref11_SameSaved_1 : TC :=
  .seq (.seq (.reg [⟨some 57, .mv false (.s 5), none⟩,
    ⟨some 58, .fa 6 (.s 2), none⟩,
    ⟨some 59, .ldl false false 1 2 (.s 58), none⟩,
    ⟨some 60, .len false (.s 59), none⟩,
    ⟨some 61, .ar .lss (.s 57) (.s 60), none⟩] [57, 58, 59, 60])
  (.cond (.s 61) (.skip)
  (.exit 0)))
  (.seq (.block 1 (.seq (.reg [⟨some 64, .fa 6 (.s 2), none⟩,
    ⟨some 65, .ldl false false 1 2 (.s 64), none⟩,
    ⟨some 66, .mv false (.s 5), none⟩,
    ⟨some 67, .ia 4 (.s 65) (.s 66), none⟩,
    ⟨some 68, .ldh false true 4 (.s 67), none⟩,
    ⟨some 69, .fa 6 (.s 3), none⟩,
    ⟨some 70, .ldl false false 1 3 (.s 69), none⟩,
    ⟨some 71, .mv false (.s 5), none⟩,
    ⟨some 72, .ia 4 (.s 70) (.s 71), none⟩,
    ⟨some 73, .ldh false true 4 (.s 72), none⟩,
    ⟨some 74, .call 0 n_ref11_SameEntry [(false, (.s 68)), (false, (.s 73))], none⟩,
    ⟨some 75, .not (.s 74), none⟩] [61, 64, 65, 66, 67, 68, 69, 70, 71, 72, 73, 74])
  (.cond (.s 75) (.seq (.reg [⟨some 4, .mv false (.c (.bool false)), none⟩] [])
  (.ret))
  (.skip))))
  (.reg [⟨some 62, .mv false (.s 5), none⟩,
    ⟨some 63, .ar .add (.s 62) (.c (.int .i64 1)), none⟩,
    ⟨some 5, .mv false (.s 63), none⟩] [62, 63, 75]))
def tf_ref11_SameSaved : TF := ⟨76, [.tmp 4],
  .seq (.reg [⟨some 2, .lbx true (.s 0), none⟩,
    ⟨some 3, .lbx true (.s 1), none⟩,
    ⟨some 4, .mv false (.c (.bool false)), none⟩] [0, 1, 4, 5, 57, 58, 59, 60, 61, 62, 63, 64, 65, 66, 67, 68, 69, 70, 71, 72, 73, 74, 75])
  (.seq (.seq (.reg [⟨some 6, .fa 0 (.s 2), none⟩,
    ⟨some 7, .ldl false false 1 2 (.s 6), none⟩,
    ⟨some 8, .fa 0 (.s 3), none⟩,
    ⟨some 9, .ldl false false 1 3 (.s 8), none⟩,
    ⟨some 10, .ar .neq (.s 7) (.s 9), none⟩,
    ⟨some 11, .mv false (.s 10), none⟩,
    ⟨some 12, .fa 1 (.s 2), (some (11, false))⟩,
    ⟨some 13, .ldl false false 1 2 (.s 12), (some (11, false))⟩,
    ⟨some 14, .fa 1 (.s 3), (some (11, false))⟩,
    ⟨some 15, .ldl false false 1 3 (.s 14), (some (11, false))⟩,
    ⟨some 16, .ar .neq (.s 13) (.s 15), (some (11, false))⟩,
    ⟨some 17, .pick (.s 11) (.c (.bool true)) (.s 16), none⟩,
    ⟨some 18, .mv false (.s 17), none⟩,
    ⟨some 19, .fa 2 (.s 2), (some (18, false))⟩,
    ⟨some 20, .ldl false false 1 2 (.s 19), (some (18, false))⟩,
    ⟨some 21, .fa 2 (.s 3), (some (18, false))⟩,
    ⟨some 22, .ldl false false 1 3 (.s 21), (some (18, false))⟩,
    ⟨some 23, .ar .neq (.s 20) (.s 22), (some (18, false))⟩,
    ⟨some 24, .pick (.s 18) (.c (.bool true)) (.s 23), none⟩,
    ⟨some 25, .mv false (.s 24), none⟩,
    ⟨some 26, .fa 3 (.s 2), (some (25, false))⟩,
    ⟨some 27, .ldl false false 1 2 (.s 26), (some (25, false))⟩,
    ⟨some 28, .fa 3 (.s 3), (some (25, false))⟩,
    ⟨some 29, .ldl false false 1 3 (.s 28), (some (25, false))⟩,
    ⟨some 30, .ar .neq (.s 27) (.s 29), (some (25, false))⟩,
    ⟨some 31, .pick (.s 25) (.c (.bool true)) (.s 30), none⟩,
    ⟨some 32, .mv false (.s 31), none⟩,
    ⟨some 33, .fa 4 (.s 2), (some (32, false))⟩,
    ⟨some 34, .ldl false false 1 2 (.s 33), (some (32, false))⟩,
    ⟨some 35, .fa 4 (.s 3), (some (32, false))⟩,
    ⟨some 36, .ldl false false 1 3 (.s 35), (some (32, false))⟩,
    ⟨some 37, .ar .neq (.s 34) (.s 36), (some (32, false))⟩,
    ⟨some 38, .pick (.s 32) (.c (.bool true)) (.s 37), none⟩,
    ⟨some 39, .mv false (.s 38), none⟩,
    ⟨some 40, .fa 5 (.s 2), (some (39, false))⟩,
    ⟨some 41, .ldl false false 1 2 (.s 40), (some (39, false))⟩,
    ⟨some 42, .cvs (.s 41), (some (39, false))⟩,
    ⟨some 43, .fa 5 (.s 3), (some (39, false))⟩,
    ⟨some 44, .ldl false false 1 3 (.s 43), (some (39, false))⟩,
    ⟨some 45, .cvs (.s 44), (some (39, false))⟩,
    ⟨some 46, .ar .neq (.s 42) (.s 45), (some (39, false))⟩,
    ⟨some 47, .pick (.s 39) (.c (.bool true)) (.s 46), none⟩,
    ⟨some 48, .mv false (.s 47), none⟩,
    ⟨some 49, .fa 6 (.s 2), (some (48, false))⟩,
    ⟨some 50, .ldl false false 1 2 (.s 49), (some (48, false))⟩,
    ⟨some 51, .len false (.s 50), (some (48, false))⟩,
    ⟨some 52, .fa 6 (.s 3), (some (48, false))⟩,
    ⟨some 53, .ldl false false 1 3 (.s 52), (some (48, false))⟩,
    ⟨some 54, .len false (.s 53), (some (48, false))⟩,
    ⟨some 55, .ar .neq (.s 51) (.s 54), (some (48, false))⟩,
    ⟨some 56, .pick (.s 48) (.c (.bool true)) (.s 55), none⟩] [6, 7, 8, 9, 10, 11, 12, 13, 14, 15, 16, 17, 18, 19, 20, 21, 22, 23, 24, 25, 26, 27, 28, 29, 30, 31, 32, 33, 34, 35, 36, 37, 38, 39, 40, 41, 42, 43, 44, 45, 46, 47, 48, 49, 50, 51, 52, 53, 54, 55])
  (.cond (.s 56) (.seq (.reg [⟨some 4, .mv false (.c (.bool false)), none⟩] [])
  (.ret))
  (.skip)))
  (.seq (.seq (.reg [⟨some 5, .mv false (.c (.int .i64 0)), none⟩] [56])
  (.block 0 (.loop lp_ref11_SameSaved_1)))
  (.seq (.reg [⟨some 4, .mv false (.c (.bool true)), none⟩] [])
  (.ret)))), true⟩
/-- bailey/record.SameSaved -/
def tf_record_SameSaved : TF := ⟨52, [.tmp 4],
  .seq (.reg [⟨some 2, .lbx true (.s 0), none⟩,
    ⟨some 3, .lbx true (.s 1), none⟩,
    ⟨some 4, .mv false (.c (.bool false)), none⟩] [0, 1, 4])
  (.seq (.seq (.reg [⟨some 5, .fa 5 (.s 2), none⟩,
    ⟨some 6, .ldl false false 1 2 (.s 5), none⟩,
    ⟨some 7, .fa 5 (.s 3), none⟩,
    ⟨some 8, .ldl false false 1 3 (.s 7), none⟩,
    ⟨some 9, .call 0 n_slices_Equal_byte_byte [(false, (.s 6)), (false, (.s 8))], none⟩,
    ⟨some 10, .not (.s 9), none⟩,
    ⟨some 11, .mv false (.s 10), none⟩,
    ⟨some 12, .fa 6 (.s 2), (some (11, false))⟩,
    ⟨some 13, .ldl false false 1 2 (.s 12), (some (11, false))⟩,
    ⟨some 14, .fa 6 (.s 3), (some (11, false))⟩,
    ⟨some 15, .ldl false false 1 3 (.s 14), (some (11, false))⟩,
    ⟨some 16, .call 0 n_slices_EqualFunc_api_Entry_api_Entry_api_Entry_api_Entry [(false, (.s 13)), (false, (.s 15)), (false, (.c (.fn n_record_SameEntry [])))], (some (11, false))⟩,
    ⟨some 17, .not (.s 16), (some (11, false))⟩,
    ⟨some 18, .pick (.s 11) (.c (.bool true)) (.s 17), none⟩] [5, 6, 7, 8, 9, 10, 11, 12, 13, 14, 15, 16, 17])
  (.cond (.s 18) (.seq (.reg [⟨some 4, .mv false (.c (.bool false)), none⟩] [])
  (.ret))
  (.skip)))
  (.seq (.reg [⟨some 19, .fa 0 (.s 2), none⟩,
    ⟨some 20, .ldl false false 1 2 (.s 19), none⟩,
    ⟨some 21, .fa 0 (.s 3), none⟩,
    ⟨some 22, .ldl false false 1 3 (.s 21), none⟩,
    ⟨some 23, .ar .eql (.s 20) (.s 22), none⟩,
    ⟨some 24, .mv false (.s 23), none⟩,
    ⟨some 25, .fa 1 (.s 2), (some (24, true))⟩,
    ⟨some 26, .ldl false false 1 2 (.s 25), (some (24, true))⟩,
    ⟨some 27, .fa 1 (.s 3), (some (24, true))⟩,
    ⟨some 28, .ldl false false 1 3 (.s 27), (some (24, true))⟩,
    ⟨some 29, .ar .eql (.s 26) (.s 28), (some (24, true))⟩,
    ⟨some 30, .pick (.s 24) (.s 29) (.c (.bool false)), none⟩,
    ⟨some 31, .mv false (.s 30), none⟩,
    ⟨some 32, .fa 2 (.s 2), (some (31, true))⟩,
    ⟨some 33, .ldl false false 1 2 (.s 32), (some (31, true))⟩,
    ⟨some 34, .fa 2 (.s 3), (some (31, true))⟩,
    ⟨some 35, .ldl false false 1 3 (.s 34), (some (31, true))⟩,
    ⟨some 36, .ar .eql (.s 33) (.s 35), (some (31, true))⟩,
    ⟨some 37, .pick (.s 31) (.s 36) (.c (.bool false)), none⟩,
    ⟨some 38, .mv false (.s 37), none⟩,
    ⟨some 39, .fa 3 (.s 2), (some (38, true))⟩,
    ⟨some 40, .ldl false false 1 2 (.s 39), (some (38, true))⟩,
    ⟨some 41, .fa 3 (.s 3), (some (38, true))⟩,
    ⟨some 42, .ldl false false 1 3 (.s 41), (some (38, true))⟩,
    ⟨some 43, .ar .eql (.s 40) (.s 42), (some (38, true))⟩,
    ⟨some 44, .pick (.s 38) (.s 43) (.c (.bool false)), none⟩,
    ⟨some 45, .mv false (.s 44), none⟩,
    ⟨some 46, .fa 4 (.s 2), (some (45, true))⟩,
    ⟨some 47, .ldl false false 1 2 (.s 46), (some (45, true))⟩,
    ⟨some 48, .fa 4 (.s 3), (some (45, true))⟩,
    ⟨some 49, .ldl false false 1 3 (.s 48), (some (45, true))⟩,
    ⟨some 50, .ar .eql (.s 47) (.s 49), (some (45, true))⟩,
    ⟨some 51, .pick (.s 45) (.s 50) (.c (.bool false)), none⟩,
    ⟨some 4, .mv false (.s 51), none⟩] [])
  (.ret))), true⟩
/-- slices.EqualFunc[[]bailey/api.Entry,[]bailey/api.Entry,bailey/api.Entry,bailey/api.Entry] -/
def lp_slices_EqualFunc_api_Entry_api_Entry_api_Entry_api_Entry_1 : TC :=
  .seq (.reg [⟨some 18, .ar .lss (.s 17) (.s 16), none⟩] [])
  (.seq (.cond (.s 18) (.skip)
  (.exit 0))
  (.seq (.block 1 (.seq (.reg [⟨some 19, .mv false (.s 17), none⟩,
    ⟨some 20, .ia 4 (.s 15) (.s 17), none⟩,
    ⟨some 21, .ldh false true 4 (.s 20), none⟩,
    ⟨some 8, .lal [.int .i64 0, .int .i64 0, .int .i64 0, .nils], none⟩,
    ⟨some 7, .mv false (.s 19), none⟩,
    ⟨none, .stl true 4 8 (.s 8) (.s 21), none⟩] [18, 19, 20, 21])
  (.seq (.reg [⟨some 22, .mv false (.s 1), none⟩,
    ⟨some 23, .mv false (.s 7), none⟩,
    ⟨some 24, .ia 4 (.s 22) (.s 23), none⟩,
    ⟨some 25, .ldh false true 4 (.s 24), none⟩,
    ⟨some 9, .lal [.int .i64 0, .int .i64 0, .int .i64 0, .nils], none⟩,
    ⟨none, .stl true 4 9 (.s 9) (.s 25), none⟩] [7, 22, 23, 24, 25])
  (.seq (.reg [⟨some 26, .mv false (.s 2), none⟩,
    ⟨some 27, .ldl false true 4 8 (.s 8), none⟩,
    ⟨some 28, .ldl false true 4 9 (.s 9), none⟩,
    ⟨some 29, .callv 0 (.s 26) [(false, (.s 27)), (false, (.s 28))], none⟩,
    ⟨some 30, .not (.s 29), none⟩] [8, 9, 26, 27, 28, 29])
  (.cond (.s 30) (.seq (.reg [⟨some 6, .mv false (.c (.bool false)), none⟩] [])
  (.ret))
  (.skip))))))
  (.reg [⟨some 31, .ar .add (.s 17) (.c (.int .i64 1)), none⟩,
    ⟨some 17, .mv false (.s 31), none⟩] [30, 31])))
def tf_slices_EqualFunc_api_Entry_api_Entry_api_Entry_api_Entry : TF := ⟨32, [.tmp 6],
  .seq (.reg [⟨some 6, .mv false (.c (.bool false)), none⟩] [6, 7, 8, 9, 17, 18, 19, 20, 21, 22, 23, 24, 25, 26, 27, 28, 29, 30, 31])
  (.seq (.seq (.reg [⟨some 10, .mv false (.s 0), none⟩,
    ⟨some 11, .len false (.s 10), none⟩,
    ⟨some 12, .mv false (.s 1), none⟩,
    ⟨some 13, .len false (.s 12), none⟩,
    ⟨some 14, .ar .neq (.s 11) (.s 13), none⟩] [10, 11, 12, 13])
  (.cond (.s 14) (.seq (.reg [⟨some 6, .mv false (.c (.bool false)), none⟩] [])
  (.ret))
  (.skip)))
  (.seq (.seq (.reg [⟨some 15, .mv false (.s 0), none⟩,
    ⟨some 16, .len false (.s 15), none⟩,
    ⟨some 17, .mv false (.c (.int .i64 0)), none⟩] [0, 14])
  (.block 0 (.loop lp_slices_EqualFunc_api_Entry_api_Entry_api_Entry_api_Entry_1)))
  (.seq (.reg [⟨some 6, .mv false (.c (.bool true)), none⟩] [])
  (.ret)))), true⟩
/-- bailey/baileylaw11.RecordApplies$1 -/
def tf_law11_RecordApplies_1 : TF := ⟨8, [.tmp 4],
  .seq (.reg [⟨some 2, .lbx true (.s 0), none⟩,
    ⟨some 3, .lbx true (.s 1), none⟩,
    ⟨some 4, .mv false (.c (.bool false)), none⟩] [0, 1, 4])
  (.seq (.reg [⟨some 5, .ldl false true 4 2 (.s 2), none⟩,
    ⟨some 6, .ldl false true 4 3 (.s 3), none⟩,
    ⟨some 7, .call 0 n_ref11_SameEntry [(false, (.s 5)), (false, (.s 6))], none⟩,
    ⟨some 4, .mv false (.s 7), none⟩] [])
  (.ret)), true⟩
/-- bailey/baileyref11.SameEntry -/
def tf_ref11_SameEntry : TF := ⟨33, [.tmp 4],
  .seq (.reg [⟨some 2, .lbx true (.s 0), none⟩,
    ⟨some 3, .lbx true (.s 1), none⟩,
    ⟨some 4, .mv false (.c (.bool false)), none⟩] [0, 1, 4])
  (.seq (.reg [⟨some 5, .fa 0 (.s 2), none⟩,
    ⟨some 6, .ldl false false 1 2 (.s 5), none⟩,
    ⟨some 7, .fa 0 (.s 3), none⟩,
    ⟨some 8, .ldl false false 1 3 (.s 7), none⟩,
    ⟨some 9, .ar .eql (.s 6) (.s 8), none⟩,
    ⟨some 10, .mv false (.s 9), none⟩,
    ⟨some 11, .fa 1 (.s 2), (some (10, true))⟩,
    ⟨some 12, .ldl false false 1 2 (.s 11), (some (10, true))⟩,
    ⟨some 13, .fa 1 (.s 3), (some (10, true))⟩,
    ⟨some 14, .ldl false false 1 3 (.s 13), (some (10, true))⟩,
    ⟨some 15, .ar .eql (.s 12) (.s 14), (some (10, true))⟩,
    ⟨some 16, .pick (.s 10) (.s 15) (.c (.bool false)), none⟩,
    ⟨some 17, .mv false (.s 16), none⟩,
    ⟨some 18, .fa 2 (.s 2), (some (17, true))⟩,
    ⟨some 19, .ldl false false 1 2 (.s 18), (some (17, true))⟩,
    ⟨some 20, .fa 2 (.s 3), (some (17, true))⟩,
    ⟨some 21, .ldl false false 1 3 (.s 20), (some (17, true))⟩,
    ⟨some 22, .ar .eql (.s 19) (.s 21), (some (17, true))⟩,
    ⟨some 23, .pick (.s 17) (.s 22) (.c (.bool false)), none⟩,
    ⟨some 24, .mv false (.s 23), none⟩,
    ⟨some 25, .fa 3 (.s 2), (some (24, true))⟩,
    ⟨some 26, .ldl false false 1 2 (.s 25), (some (24, true))⟩,
    ⟨some 27, .cvs (.s 26), (some (24, true))⟩,
    ⟨some 28, .fa 3 (.s 3), (some (24, true))⟩,
    ⟨some 29, .ldl false false 1 3 (.s 28), (some (24, true))⟩,
    ⟨some 30, .cvs (.s 29), (some (24, true))⟩,
    ⟨some 31, .ar .eql (.s 27) (.s 30), (some (24, true))⟩,
    ⟨some 32, .pick (.s 24) (.s 31) (.c (.bool false)), none⟩,
    ⟨some 4, .mv false (.s 32), none⟩] [])
  (.ret)), true⟩
/-- bailey/pack.Open -/
def tf_pack_Open : TF := ⟨7, [.tmp 2],
  .seq (.reg [⟨some 2, .mv false (.c (.nilp)), none⟩] [2])
  (.seq (.reg [⟨some 3, .mv true (.s 0), none⟩,
    ⟨some 4, .call 0 n_pack_room [(false, (.s 3)), (false, (.c (.int .i64 0)))], none⟩,
    ⟨some 5, .build [.nils, .int .i64 0, .bool false] [(0, 1, (.s 4)), (2, 1, (.c (.bool true)))], none⟩,
    ⟨some 6, .hbx true (.s 5), none⟩,
    ⟨some 2, .mv false (.s 6), none⟩] [])
  (.ret)), true⟩
/-- bailey/baileyref02.Open -/
def tf_ref02_Open : TF := ⟨7, [.tmp 2],
  .seq (.reg [⟨some 2, .mv false (.c (.nilp)), none⟩] [2])
  (.seq (.reg [⟨some 3, .mv true (.s 0), none⟩,
    ⟨some 4, .call 0 n_ref02_copied [(false, (.s 3))], none⟩,
    ⟨some 5, .build [.nils, .int .i64 0] [(0, 1, (.s 4))], none⟩,
    ⟨some 6, .hbx true (.s 5), none⟩,
    ⟨some 2, .mv false (.s 6), none⟩] [])
  (.ret)), true⟩
/-- bailey/record.ReadEntry -/
def jn_record_ReadEntry_1 : TC :=
  .seq (.seq (.reg [⟨some 16, .mv false (.s 0), none⟩,
    ⟨some 17, .call 0 n_pack_Reader_Err [(false, (.s 16))], none⟩,
    ⟨some 18, .ar .neq (.s 17) (.c (.int .i64 0)), none⟩] [0, 13, 16, 17])
  (.cond (.s 18) (.seq (.reg [⟨some 19, .build [.int .i64 0, .int .i64 0, .int .i64 0, .nils] [], none⟩,
    ⟨none, .stl true 4 2 (.s 2) (.s 19), none⟩] [])
  (.ret))
  (.skip)))
  (.seq (.reg [⟨some 20, .ldh false true 4 (.s 3), none⟩,
    ⟨none, .stl true 4 2 (.s 2) (.s 20), none⟩] [])
  (.ret))
def tf_record_ReadEntry : TF := ⟨21, [.cell 2 true 4],
  .seq (.reg [⟨some 2, .lal [.int .i64 0, .int .i64 0, .int .i64 0, .nils], none⟩] [])
  (.seq (.reg [⟨some 3, .hal [.int .i64 0, .int .i64 0, .int .i64 0, .nils], none⟩] [])
  (.seq (.reg [⟨some 4, .mv false (.s 0), none⟩,
    ⟨some 5, .call 0 n_record_ofEntry [(false, (.s 3))], none⟩,
    ⟨some 6, .call 0 n_record_take [(false, (.s 4)), (false, (.s 5))], none⟩] [4, 5, 6])
  (.seq (.reg [⟨some 7, .mv false (.s 0), none⟩,
    ⟨some 8, .call 0 n_pack_Reader_Text [(false, (.s 7)), (false, (.c (.int .i64 4096)))], none⟩,
    ⟨some 9, .cvb (.s 8), none⟩,
    ⟨some 10, .fa 3 (.s 3), none⟩,
    ⟨none, .sth true 1 (.s 10) (.s 9), none⟩] [7, 8, 9, 10])
  (.seq (.seq (.reg [⟨some 11, .ldh false true 4 (.s 3), none⟩,
    ⟨some 12, .call 0 n_record_Entry [(false, (.s 11))], none⟩,
    ⟨some 13, .not (.s 12), none⟩] [11, 12])
  (.cond (.s 13) (.reg [⟨some 14, .mv false (.s 0), none⟩,
    ⟨some 15, .call 0 n_pack_Reader_Fail [(false, (.s 14)), (false, (.c (.int .i64 3)))], none⟩] [13, 14, 15])
  (.skip)))
  (jn_record_ReadEntry_1))))), true⟩
/-- bailey/baileyref11.ReadEntry -/
def jn_ref11_ReadEntry_1 : TC :=
  .seq (.seq (.reg [⟨some 27, .mv false (.s 0), none⟩,
    ⟨some 28, .call 0 n_ref02_Reader_Err [(false, (.s 27))], none⟩,
    ⟨some 29, .ar .neq (.s 28) (.c (.int .i64 0)), none⟩] [0, 24, 27, 28])
  (.cond (.s 29) (.seq (.reg [⟨some 30, .build [.int .i64 0, .int .i64 0, .int .i64 0, .nils] [], none⟩,
    ⟨none, .stl true 4 2 (.s 2) (.s 30), none⟩] [])
  (.ret))
  (.skip)))
  (.seq (.reg [⟨some 31, .ldl true true 4 3 (.s 3), none⟩,
    ⟨none, .stl true 4 2 (.s 2) (.s 31), none⟩] [])
  (.ret))
def tf_ref11_ReadEntry : TF := ⟨32, [.cell 2 true 4],
  .seq (.reg [⟨some 2, .lal [.int .i64 0, .int .i64 0, .int .i64 0, .nils], none⟩] [])
  (.seq (.reg [⟨some 4, .mv false (.s 0), none⟩,
    ⟨some 5, .call 0 n_ref02_Reader_Num [(false, (.s 4)), (false, (.c (.int .i64 2147483648)))], none⟩,
    ⟨some 6, .build [.int .i64 0, .int .i64 0, .int .i64 0, .nils] [(0, 1, (.s 5))], none⟩,
    ⟨some 3, .lal [.int .i64 0, .int .i64 0, .int .i64 0, .nils], none⟩,
    ⟨none, .stl true 4 3 (.s 3) (.s 6), none⟩] [4, 5, 6])
  (.seq (.reg [⟨some 7, .mv false (.s 0), none⟩,
    ⟨some 8, .call 0 n_ref02_Reader_Num [(false, (.s 7)), (false, (.c (.int .i64 2147483648)))], none⟩,
    ⟨some 9, .fa 1 (.s 3), none⟩,
    ⟨none, .stl false 1 3 (.s 9) (.s 8), none⟩] [7, 8, 9])
  (.seq (.reg [⟨some 10, .mv false (.s 0), none⟩,
    ⟨some 11, .call 0 n_ref02_Reader_Num [(false, (.s 10)), (false, (.c (.int .i64 2)))], none⟩,
    ⟨some 12, .fa 2 (.s 3), none⟩,
    ⟨none, .stl false 1 3 (.s 12) (.s 11), none⟩] [10, 11, 12])
  (.seq (.reg [⟨some 13, .mv false (.s 0), none⟩,
    ⟨some 14, .call 0 n_ref02_Reader_Text [(false, (.s 13)), (false, (.c (.int .i64 4096)))], none⟩,
    ⟨some 15, .cvb (.s 14), none⟩,
    ⟨some 16, .fa 3 (.s 3), none⟩,
    ⟨none, .stl true 1 3 (.s 16) (.s 15), none⟩] [13, 14, 15, 16])
  (.seq (.seq (.reg [⟨some 17, .mv false (.s 0), none⟩,
    ⟨some 18, .call 0 n_ref02_Reader_Err [(false, (.s 17))], none⟩,
    ⟨some 19, .ar .eql (.s 18) (.c (.int .i64 0)), none⟩,
    ⟨some 20, .mv false (.s 19), none⟩,
    ⟨some 21, .ldl false true 4 3 (.s 3), (some (20, true))⟩,
    ⟨some 22, .call 0 n_ref11_Entry [(false, (.s 21))], (some (20, true))⟩,
    ⟨some 23, .not (.s 22), (some (20, true))⟩,
    ⟨some 24, .pick (.s 20) (.s 23) (.c (.bool false)), none⟩] [17, 18, 19, 20, 21, 22, 23])
  (.cond (.s 24) (.reg [⟨some 25, .mv false (.s 0), none⟩,
    ⟨some 26, .call 0 n_ref02_Reader_Fail [(false, (.s 25)), (false, (.c (.int .i64 3)))], none⟩] [24, 25, 26])
  (.skip)))
  (jn_ref11_ReadEntry_1)))))), true⟩
/-- bailey/record.Entry -/
def tf_record_Entry : TF := ⟨11, [.tmp 2],
  .seq (.reg [⟨some 1, .hbx true (.s 0), none⟩,
    ⟨some 2, .mv false (.c (.bool false)), none⟩] [0, 2])
  (.seq (.reg [⟨some 3, .call 0 n_record_ofEntry [(false, (.s 1))], none⟩,
    ⟨some 4, .call 0 n_record_allIn [(false, (.s 3))], none⟩,
    ⟨some 5, .mv false (.s 4), none⟩,
    ⟨some 6, .fa 3 (.s 1), (some (5, true))⟩,
    ⟨some 7, .ldh false false 1 (.s 6), (some (5, true))⟩,
    ⟨some 8, .len false (.s 7), (some (5, true))⟩,
    ⟨some 9, .ar .leq (.s 8) (.c (.int .i64 4096)), (some (5, true))⟩,
    ⟨some 10, .pick (.s 5) (.s 9) (.c (.bool false)), none⟩,
    ⟨some 2, .mv false (.s 10), none⟩] [])
  (.ret)), true⟩
/-- bailey/baileyref11.Entry -/
def tf_ref11_Entry : TF := ⟨22, [.tmp 2],
  .seq (.reg [⟨some 1, .lbx true (.s 0), none⟩,
    ⟨some 2, .mv false (.c (.bool false)), none⟩] [0, 2])
  (.seq (.reg [⟨some 3, .fa 0 (.s 1), none⟩,
    ⟨some 4, .ldl false false 1 1 (.s 3), none⟩,
    ⟨some 5, .call 0 n_ref11_in [(false, (.s 4)), (false, (.c (.int .i64 1))), (false, (.c (.int .i64 2147483648)))], none⟩,
    ⟨some 6, .mv false (.s 5), none⟩,
    ⟨some 7, .fa 1 (.s 1), (some (6, true))⟩,
    ⟨some 8, .ldl false false 1 1 (.s 7), (some (6, true))⟩,
    ⟨some 9, .call 0 n_ref11_in [(false, (.s 8)), (false, (.c (.int .i64 0))), (false, (.c (.int .i64 2147483648)))], (some (6, true))⟩,
    ⟨some 10, .pick (.s 6) (.s 9) (.c (.bool false)), none⟩,
    ⟨some 11, .mv false (.s 10), none⟩,
    ⟨some 12, .fa 2 (.s 1), (some (11, true))⟩,
    ⟨some 13, .ldl false false 1 1 (.s 12), (some (11, true))⟩,
    ⟨some 14, .call 0 n_ref11_in [(false, (.s 13)), (false, (.c (.int .i64 0))), (false, (.c (.int .i64 2)))], (some (11, true))⟩,
    ⟨some 15, .pick (.s 11) (.s 14) (.c (.bool false)), none⟩,
    ⟨some 16, .mv false (.s 15), none⟩,
    ⟨some 17, .fa 3 (.s 1), (some (16, true))⟩,
    ⟨some 18, .ldl false false 1 1 (.s 17), (some (16, true))⟩,
    ⟨some 19, .len false (.s 18), (some (16, true))⟩,
    ⟨some 20, .ar .leq (.s 19) (.c (.int .i64 4096)), (some (16, true))⟩,
    ⟨some 21, .pick (.s 16) (.s 20) (.c (.bool false)), none⟩,
    ⟨some 2, .mv false (.s 21), none⟩] [])
  (.ret)), true⟩
/-- bailey/record.SameEntry -/
def tf_record_SameEntry : TF := ⟨31, [.tmp 4],
  .seq (.reg [⟨some 2, .lbx true (.s 0), none⟩,
    ⟨some 3, .lbx true (.s 1), none⟩,
    ⟨some 4, .mv false (.c (.bool false)), none⟩] [0, 1, 4])
  (.seq (.reg [⟨some 5, .fa 0 (.s 2), none⟩,
    ⟨some 6, .ldl false false 1 2 (.s 5), none⟩,
    ⟨some 7, .fa 0 (.s 3), none⟩,
    ⟨some 8, .ldl false false 1 3 (.s 7), none⟩,
    ⟨some 9, .ar .eql (.s 6) (.s 8), none⟩,
    ⟨some 10, .mv false (.s 9), none⟩,
    ⟨some 11, .fa 1 (.s 2), (some (10, true))⟩,
    ⟨some 12, .ldl false false 1 2 (.s 11), (some (10, true))⟩,
    ⟨some 13, .fa 1 (.s 3), (some (10, true))⟩,
    ⟨some 14, .ldl false false 1 3 (.s 13), (some (10, true))⟩,
    ⟨some 15, .ar .eql (.s 12) (.s 14), (some (10, true))⟩,
    ⟨some 16, .pick (.s 10) (.s 15) (.c (.bool false)), none⟩,
    ⟨some 17, .mv false (.s 16), none⟩,
    ⟨some 18, .fa 2 (.s 2), (some (17, true))⟩,
    ⟨some 19, .ldl false false 1 2 (.s 18), (some (17, true))⟩,
    ⟨some 20, .fa 2 (.s 3), (some (17, true))⟩,
    ⟨some 21, .ldl false false 1 3 (.s 20), (some (17, true))⟩,
    ⟨some 22, .ar .eql (.s 19) (.s 21), (some (17, true))⟩,
    ⟨some 23, .pick (.s 17) (.s 22) (.c (.bool false)), none⟩,
    ⟨some 24, .mv false (.s 23), none⟩,
    ⟨some 25, .fa 3 (.s 2), (some (24, true))⟩,
    ⟨some 26, .ldl false false 1 2 (.s 25), (some (24, true))⟩,
    ⟨some 27, .fa 3 (.s 3), (some (24, true))⟩,
    ⟨some 28, .ldl false false 1 3 (.s 27), (some (24, true))⟩,
    ⟨some 29, .call 0 n_slices_Equal_byte_byte [(false, (.s 26)), (false, (.s 28))], (some (24, true))⟩,
    ⟨some 30, .pick (.s 24) (.s 29) (.c (.bool false)), none⟩,
    ⟨some 4, .mv false (.s 30), none⟩] [])
  (.ret)), true⟩
/-- bailey/record.PutEntry -/
def tf_record_PutEntry : TF := ⟨18, [.tmp 4],
  .seq (.reg [⟨some 3, .hbx true (.s 1), none⟩,
    ⟨some 4, .mv true (.c (.nils)), none⟩] [1, 4])
  (.seq (.reg [⟨some 5, .mv false (.s 0), none⟩,
    ⟨some 6, .call 3 n_slices_Clone_byte_byte [(false, (.s 5))], none⟩,
    ⟨some 0, .mv true (.s 6), none⟩] [5, 6])
  (.seq (.seq (.reg [⟨some 7, .ldh false true 4 (.s 3), none⟩,
    ⟨some 8, .call 0 n_record_Entry [(false, (.s 7))], none⟩,
    ⟨some 9, .not (.s 8), none⟩] [7, 8])
  (.cond (.s 9) (.seq (.reg [⟨some 10, .mv false (.s 0), none⟩,
    ⟨some 4, .mv true (.s 10), none⟩] [])
  (.ret))
  (.skip)))
  (.seq (.reg [⟨some 11, .mv false (.s 0), none⟩,
    ⟨some 12, .call 1 n_record_ofEntry [(false, (.s 3))], none⟩,
    ⟨some 13, .call 1 n_record_put [(false, (.s 11)), (false, (.s 12))], none⟩,
    ⟨some 14, .fa 3 (.s 3), none⟩,
    ⟨some 15, .ldh false false 1 (.s 14), none⟩,
    ⟨some 16, .cvs (.s 15), none⟩,
    ⟨some 17, .call 0 n_pack_Text [(false, (.s 13)), (false, (.s 16))], none⟩,
    ⟨some 4, .mv true (.s 17), none⟩] [])
  (.ret)))), true⟩
/-- bailey/baileyref11.PutEntry -/
def tf_ref11_PutEntry : TF := ⟨25, [.tmp 4],
  .seq (.reg [⟨some 3, .lbx true (.s 1), none⟩,
    ⟨some 4, .mv true (.c (.nils)), none⟩] [1, 4])
  (.seq (.seq (.reg [⟨some 5, .ldl false true 4 3 (.s 3), none⟩,
    ⟨some 6, .call 0 n_ref11_Entry [(false, (.s 5))], none⟩,
    ⟨some 7, .not (.s 6), none⟩] [5, 6])
  (.cond (.s 7) (.seq (.reg [⟨some 8, .mv false (.s 0), none⟩,
    ⟨some 9, .app true 1 1 (.c (.nils)) (.s 8), none⟩,
    ⟨some 4, .mv true (.s 9), none⟩] [])
  (.ret))
  (.skip)))
  (.seq (.reg [⟨some 10, .mv false (.s 0), none⟩,
    ⟨some 11, .fa 0 (.s 3), none⟩,
    ⟨some 12, .ldl false false 1 3 (.s 11), none⟩,
    ⟨some 13, .call 0 n_ref02_Num [(false, (.s 10)), (false, (.s 12))], none⟩,
    ⟨some 14, .fa 1 (.s 3), none⟩,
    ⟨some 15, .ldl false false 1 3 (.s 14), none⟩,
    ⟨some 16, .call 0 n_ref02_Num [(false, (.s 13)), (false, (.s 15))], none⟩,
    ⟨some 17, .fa 2 (.s 3), none⟩,
    ⟨some 18, .ldl false false 1 3 (.s 17), none⟩,
    ⟨some 19, .call 0 n_ref02_Num [(false, (.s 16)), (false, (.s 18))], none⟩,
    ⟨some 0, .mv true (.s 19), none⟩] [7, 10, 11, 12, 13, 14, 15, 16, 17, 18, 19])
  (.seq (.reg [⟨some 20, .mv false (.s 0), none⟩,
    ⟨some 21, .fa 3 (.s 3), none⟩,
    ⟨some 22, .ldl false false 1 3 (.s 21), none⟩,
    ⟨some 23, .cvs (.s 22), none⟩,
    ⟨some 24, .call 0 n_ref02_Text [(false, (.s 20)), (false, (.s 23))], none⟩,
    ⟨some 4, .mv true (.s 24), none⟩] [])
  (.ret)))), true⟩
/-- (*bailey/pack.Reader).Err -/
def tf_pack_Reader_Err : TF := ⟨16, [.tmp 2],
  .seq (.reg [⟨some 2, .mv false (.c (.int .i64 0)), none⟩] [2])
  (.seq (.seq (.reg [⟨some 3, .mv false (.s 0), none⟩,
    ⟨some 4, .eqp false (.s 3) (.c (.nilp)), none⟩,
    ⟨some 5, .mv false (.s 4), none⟩,
    ⟨some 6, .mv false (.s 0), (some (5, false))⟩,
    ⟨some 7, .nilc (.s 6), (some (5, false))⟩,
    ⟨some 8, .fa 2 (.s 7), (some (5, false))⟩,
    ⟨some 9, .ldh false false 1 (.s 8), (some (5, false))⟩,
    ⟨some 10, .not (.s 9), (some (5, false))⟩,
    ⟨some 11, .pick (.s 5) (.c (.bool true)) (.s 10), none⟩] [3, 4, 5, 6, 7, 8, 9, 10])
  (.cond (.s 11) (.seq (.reg [⟨some 2, .mv false (.c (.int .i64 2)), none⟩] [])
  (.ret))
  (.skip)))
  (.seq (.reg [⟨some 12, .mv false (.s 0), none⟩,
    ⟨some 13, .nilc (.s 12), none⟩,
    ⟨some 14, .fa 1 (.s 13), none⟩,
    ⟨some 15, .ldh false false 1 (.s 14), none⟩,
    ⟨some 2, .mv false (.s 15), none⟩] [])
  (.ret))), true⟩
/-- (*bailey/baileyref02.Reader).Err -/
def tf_ref02_Reader_Err : TF := ⟨7, [.tmp 2],
  .seq (.reg [⟨some 2, .mv false (.c (.int .i64 0)), none⟩] [2])
  (.seq (.reg [⟨some 3, .mv false (.s 0), none⟩,
    ⟨some 4, .nilc (.s 3), none⟩,
    ⟨some 5, .fa 1 (.s 4), none⟩,
    ⟨some 6, .ldh false false 1 (.s 5), none⟩,
    ⟨some 2, .mv false (.s 6), none⟩] [])
  (.ret)), true⟩
/-- (*bailey/pack.Reader).Left -/
def tf_pack_Reader_Left : TF := ⟨11, [.tmp 2],
  .seq (.reg [⟨some 2, .mv false (.c (.int .i64 0)), none⟩] [2])
  (.seq (.seq (.reg [⟨some 3, .mv false (.s 0), none⟩,
    ⟨some 4, .call 0 n_pack_Reader_works [(false, (.s 3))], none⟩,
    ⟨some 5, .not (.s 4), none⟩] [3, 4])
  (.cond (.s 5) (.seq (.reg [⟨some 2, .mv false (.c (.int .i64 0)), none⟩] [])
  (.ret))
  (.skip)))
  (.seq (.reg [⟨some 6, .mv false (.s 0), none⟩,
    ⟨some 7, .nilc (.s 6), none⟩,
    ⟨some 8, .fa 0 (.s 7), none⟩,
    ⟨some 9, .ldh false false 1 (.s 8), none⟩,
    ⟨some 10, .len false (.s 9), none⟩,
    ⟨some 2, .mv false (.s 10), none⟩] [])
  (.ret))), true⟩
/-- (*bailey/baileyref02.Reader).Left -/
def tf_ref02_Reader_Left : TF := ⟨8, [.tmp 2],
  .seq (.reg [⟨some 2, .mv false (.c (.int .i64 0)), none⟩] [2])
  (.seq (.reg [⟨some 3, .mv false (.s 0), none⟩,
    ⟨some 4, .nilc (.s 3), none⟩,
    ⟨some 5, .fa 0 (.s 4), none⟩,
    ⟨some 6, .ldh false false 1 (.s 5), none⟩,
    ⟨some 7, .len false (.s 6), none⟩,
    ⟨some 2, .mv false (.s 7), none⟩] [])
  (.ret)), true⟩
/-- (*bailey/rlog.Log).Term -/
def tf_rlog_Log_Term : TF := ⟨39, [.tmp 4, .tmp 5],
  .seq (.reg [⟨some 4, .mv false (.c (.int .i64 0)), none⟩,
    ⟨some 5, .mv false (.c (.int .i64 0)), none⟩] [4, 5])
  (.seq (.seq (.reg [⟨some 8, .mv false (.s 0), none⟩,
    ⟨some 9, .call 0 n_rlog_Log_there [(false, (.s 8))], none⟩,
    ⟨some 10, .not (.s 9), none⟩] [8, 9])
  (.cond (.s 10) (.seq (.reg [⟨some 4, .mv false (.c (.int .i64 0)), none⟩,
    ⟨some 5, .mv false (.c (.int .i64 2)), none⟩] [])
  (.ret))
  (.skip)))
  (.seq (.seq (.reg [⟨some 11, .mv false (.s 1), none⟩,
    ⟨some 12, .mv false (.s 0), none⟩,
    ⟨some 13, .nilc (.s 12), none⟩,
    ⟨some 14, .fa 0 (.s 13), none⟩,
    ⟨some 15, .fa 0 (.s 14), none⟩,
    ⟨some 16, .ldh false false 1 (.s 15), none⟩,
    ⟨some 17, .ar .eql (.s 11) (.s 16), none⟩] [10, 11, 12, 13, 14, 15, 16])
  (.cond (.s 17) (.seq (.reg [⟨some 18, .mv false (.s 0), none⟩,
    ⟨some 19, .nilc (.s 18), none⟩,
    ⟨some 20, .fa 0 (.s 19), none⟩,
    ⟨some 21, .fa 1 (.s 20), none⟩,
    ⟨some 22, .ldh false false 1 (.s 21), none⟩,
    ⟨some 4, .mv false (.s 22), none⟩,
    ⟨some 5, .mv false (.c (.int .i64 0)), none⟩] [])
  (.ret))
  (.skip)))
  (.seq (.reg [⟨some 24, .mv false (.s 0), none⟩,
    ⟨some 25, .mv false (.s 1), none⟩,
    ⟨some 26, .call 0 n_rlog_Log_place [(false, (.s 24)), (false, (.s 25))], none⟩,
    ⟨some 23, .mv true (.s 26), none⟩,
    ⟨some 27, .ext false 0 (.s 23), none⟩,
    ⟨some 28, .ext false 1 (.s 23), none⟩,
    ⟨some 6, .mv false (.s 27), none⟩,
    ⟨some 7, .mv false (.s 28), none⟩] [1, 17, 23, 24, 25, 26, 27, 28])
  (.seq (.seq (.reg [⟨some 29, .mv false (.s 7), none⟩,
    ⟨some 30, .not (.s 29), none⟩] [7, 29])
  (.cond (.s 30) (.seq (.reg [⟨some 4, .mv false (.c (.int .i64 0)), none⟩,
    ⟨some 5, .mv false (.c (.int .i64 6)), none⟩] [])
  (.ret))
  (.skip)))
  (.seq (.reg [⟨some 31, .mv false (.s 0), none⟩,
    ⟨some 32, .nilc (.s 31), none⟩,
    ⟨some 33, .fa 3 (.s 32), none⟩,
    ⟨some 34, .ldh false false 1 (.s 33), none⟩,
    ⟨some 35, .mv false (.s 6), none⟩,
    ⟨some 36, .ia 4 (.s 34) (.s 35), none⟩,
    ⟨some 37, .fa 1 (.s 36), none⟩,
    ⟨some 38, .ldh false false 1 (.s 37), none⟩,
    ⟨some 4, .mv false (.s 38), none⟩,
    ⟨some 5, .mv false (.c (.int .i64 0)), none⟩] [])
  (.ret)))))), true⟩
/-- (*bailey/rlog.Log).Append -/
def tf_rlog_Log_Append : TF := ⟨31, [.tmp 4],
  .seq (.reg [⟨some 3, .lbx true (.s 1), none⟩,
    ⟨some 4, .mv false (.c (.int .i64 0)), none⟩] [1, 4])
  (.seq (.block 0 (.seq (.reg [⟨some 6, .mv false (.s 0), none⟩,
    ⟨some 7, .call 0 n_rlog_Log_there [(false, (.s 6))], none⟩,
    ⟨some 8, .not (.s 7), none⟩,
    ⟨some 5, .mv false (.s 8), none⟩] [6, 7, 8])
  (.cond (.s 5) (.seq (.reg [⟨some 4, .mv false (.c (.int .i64 2)), none⟩] [])
  (.ret))
  (.seq (.reg [⟨some 10, .ldl false true 4 3 (.s 3), none⟩,
    ⟨some 11, .call 0 n_record_Entry [(false, (.s 10))], none⟩,
    ⟨some 12, .not (.s 11), none⟩,
    ⟨some 9, .mv false (.s 12), none⟩] [5, 10, 11, 12])
  (.cond (.s 9) (.seq (.reg [⟨some 4, .mv false (.c (.int .i64 1)), none⟩] [])
  (.ret))
  (.seq (.reg [⟨some 14, .fa 0 (.s 3), none⟩,
    ⟨some 15, .ldl false false 1 3 (.s 14), none⟩,
    ⟨some 16, .ar .sub (.s 15) (.c (.int .i64 1)), none⟩,
    ⟨some 17, .mv false (.s 0), none⟩,
    ⟨some 18, .call 0 n_rlog_Log_Last [(false, (.s 17))], none⟩,
    ⟨some 19, .ar .neq (.s 16) (.s 18), none⟩,
    ⟨some 13, .mv false (.s 19), none⟩] [9, 14, 15, 16, 17, 18, 19])
  (.cond (.s 13) (.seq (.reg [⟨some 4, .mv false (.c (.int .i64 10)), none⟩] [])
  (.ret))
  (.skip))))))))
  (.seq (.reg [⟨some 20, .mv false (.s 0), none⟩,
    ⟨some 21, .mv false (.s 0), none⟩,
    ⟨some 22, .nilc (.s 21), none⟩,
    ⟨some 23, .fa 3 (.s 22), none⟩,
    ⟨some 24, .ldh true false 1 (.s 23), none⟩,
    ⟨some 25, .ldl false true 4 3 (.s 3), none⟩,
    ⟨some 26, .call 2 n_rlog_own [(false, (.s 25))], none⟩,
    ⟨some 27, .bsl true 4 1 [.int .i64 0, .int .i64 0, .int .i64 0, .nils] [(0, (.s 26))], none⟩,
    ⟨some 28, .app true 4 48 (.s 24) (.s 27), none⟩,
    ⟨some 29, .nilc (.s 20), none⟩,
    ⟨some 30, .fa 3 (.s 29), none⟩,
    ⟨none, .sth true 1 (.s 30) (.s 28), none⟩] [])
  (.seq (.reg [⟨some 4, .mv false (.c (.int .i64 0)), none⟩] [])
  (.ret)))), true⟩
/-- (*bailey/rlog.Log).Cut -/
def jn_rlog_Log_Cut_1 : TC :=
  .seq (.reg [⟨some 4, .mv false (.c (.int .i64 0)), none⟩] [])
  (.ret)
def tf_rlog_Log_Cut : TF := ⟨34, [.tmp 4],
  .seq (.reg [⟨some 4, .mv false (.c (.int .i64 0)), none⟩] [4])
  (.seq (.seq (.reg [⟨some 7, .mv false (.s 0), none⟩,
    ⟨some 8, .call 0 n_rlog_Log_there [(false, (.s 7))], none⟩,
    ⟨some 9, .not (.s 8), none⟩] [7, 8])
  (.cond (.s 9) (.seq (.reg [⟨some 4, .mv false (.c (.int .i64 2)), none⟩] [])
  (.ret))
  (.skip)))
  (.seq (.seq (.reg [⟨some 10, .mv false (.s 1), none⟩,
    ⟨some 11, .mv false (.s 0), none⟩,
    ⟨some 12, .nilc (.s 11), none⟩,
    ⟨some 13, .fa 0 (.s 12), none⟩,
    ⟨some 14, .fa 0 (.s 13), none⟩,
    ⟨some 15, .ldh false false 1 (.s 14), none⟩,
    ⟨some 16, .ar .leq (.s 10) (.s 15), none⟩] [9, 10, 11, 12, 13, 14, 15])
  (.cond (.s 16) (.seq (.reg [⟨some 4, .mv false (.c (.int .i64 10)), none⟩] [])
  (.ret))
  (.skip)))
  (.seq (.seq (.reg [⟨some 18, .mv false (.s 0), none⟩,
    ⟨some 19, .mv false (.s 1), none⟩,
    ⟨some 20, .call 0 n_rlog_Log_place [(false, (.s 18)), (false, (.s 19))], none⟩,
    ⟨some 17, .mv true (.s 20), none⟩,
    ⟨some 21, .ext false 0 (.s 17), none⟩,
    ⟨some 22, .ext false 1 (.s 17), none⟩,
    ⟨some 5, .mv false (.s 21), none⟩,
    ⟨some 6, .mv false (.s 22), none⟩] [1, 16, 17, 18, 19, 20, 21, 22])
  (.seq (.reg [⟨some 23, .mv false (.s 6), none⟩] [6])
  (.cond (.s 23) (.reg [⟨some 24, .mv false (.s 0), none⟩,
    ⟨some 25, .mv false (.s 0), none⟩,
    ⟨some 26, .nilc (.s 25), none⟩,
    ⟨some 27, .fa 3 (.s 26), none⟩,
    ⟨some 28, .ldh false false 1 (.s 27), none⟩,
    ⟨some 29, .mv false (.s 5), none⟩,
    ⟨some 30, .slc 4 (.s 28) none (some (.s 29)) none, none⟩,
    ⟨some 31, .call 0 n_slices_Clip_api_Entry_api_Entry [(false, (.s 30))], none⟩,
    ⟨some 32, .nilc (.s 24), none⟩,
    ⟨some 33, .fa 3 (.s 32), none⟩,
    ⟨none, .sth true 1 (.s 33) (.s 31), none⟩] [])
  (.skip))))
  (jn_rlog_Log_Cut_1)))), true⟩
/-- (*bailey/rlog.Log).Last -/
def tf_rlog_Log_Last : TF := ⟨17, [.tmp 2],
  .seq (.reg [⟨some 2, .mv false (.c (.int .i64 0)), none⟩] [2])
  (.seq (.seq (.reg [⟨some 3, .mv false (.s 0), none⟩,
    ⟨some 4, .call 0 n_rlog_Log_there [(false, (.s 3))], none⟩,
    ⟨some 5, .not (.s 4), none⟩] [3, 4])
  (.cond (.s 5) (.seq (.reg [⟨some 2, .mv false (.c (.int .i64 0)), none⟩] [])
  (.ret))
  (.skip)))
  (.seq (.reg [⟨some 6, .mv false (.s 0), none⟩,
    ⟨some 7, .nilc (.s 6), none⟩,
    ⟨some 8, .fa 0 (.s 7), none⟩,
    ⟨some 9, .fa 0 (.s 8), none⟩,
    ⟨some 10, .ldh false false 1 (.s 9), none⟩,
    ⟨some 11, .mv false (.s 0), none⟩,
    ⟨some 12, .nilc (.s 11), none⟩,
    ⟨some 13, .fa 3 (.s 12), none⟩,
    ⟨some 14, .ldh false false 1 (.s 13), none⟩,
    ⟨some 15, .len false (.s 14), none⟩,
    ⟨some 16, .ar .add (.s 10) (.s 15), none⟩,
    ⟨some 2, .mv false (.s 16), none⟩] [])
  (.ret))), true⟩
/-- (*bailey/rlog.Log).LastTerm -/
def tf_rlog_Log_LastTerm : TF := ⟨13, [.tmp 2],
  .seq (.reg [⟨some 2, .mv false (.c (.int .i64 0)), none⟩] [2])
  (.seq (.reg [⟨some 6, .mv false (.s 0), none⟩,
    ⟨some 7, .mv false (.s 0), none⟩,
    ⟨some 8, .call 0 n_rlog_Log_Last [(false, (.s 7))], none⟩,
    ⟨some 9, .call 0 n_rlog_Log_Term [(false, (.s 6)), (false, (.s 8))], none⟩,
    ⟨some 5, .mv true (.s 9), none⟩,
    ⟨some 10, .ext false 0 (.s 5), none⟩,
    ⟨some 11, .ext false 1 (.s 5), none⟩,
    ⟨some 3, .mv false (.s 10), none⟩,
    ⟨some 4, .mv false (.s 11), none⟩] [0, 4, 5, 6, 7, 8, 9, 10, 11])
  (.seq (.reg [⟨some 12, .mv false (.s 3), none⟩,
    ⟨some 2, .mv false (.s 12), none⟩] [])
  (.ret))), true⟩
/-- bailey/record.Encode -/
def jn_record_Encode_1 : TC :=
  .seq (.reg [⟨some 31, .mv false (.s 5), none⟩,
    ⟨some 2, .mv true (.s 31), none⟩,
    ⟨some 3, .mv false (.c (.int .i64 0)), none⟩] [])
  (.ret)
def tf_record_Encode : TF := ⟨32, [.tmp 2, .tmp 3],
  .seq (.reg [⟨some 1, .hbx true (.s 0), none⟩,
    ⟨some 2, .mv true (.c (.nils)), none⟩,
    ⟨some 3, .mv false (.c (.int .i64 0)), none⟩] [0, 2, 3])
  (.seq (.seq (.reg [⟨some 6, .ldh false true 10 (.s 1), none⟩,
    ⟨some 7, .call 0 n_record_Check [(false, (.s 6))], none⟩,
    ⟨some 4, .mv false (.s 7), none⟩] [6, 7])
  (.seq (.reg [⟨some 8, .mv false (.s 4), none⟩,
    ⟨some 9, .ar .neq (.s 8) (.c (.int .i64 0)), none⟩] [8])
  (.cond (.s 9) (.seq (.reg [⟨some 10, .mv false (.s 4), none⟩,
    ⟨some 2, .mv true (.c (.nils)), none⟩,
    ⟨some 3, .mv false (.s 10), none⟩] [])
  (.ret))
  (.skip))))
  (.seq (.reg [⟨some 11, .fa 0 (.s 1), none⟩,
    ⟨some 12, .ldh false false 1 (.s 11), none⟩,
    ⟨some 13, .call 0 n_pack_Num [(false, (.c (.nils))), (false, (.s 12))], none⟩,
    ⟨some 14, .call 0 n_record_ofRecord [(false, (.s 1))], none⟩,
    ⟨some 15, .call 0 n_record_put [(false, (.s 13)), (false, (.s 14))], none⟩,
    ⟨some 5, .mv true (.s 15), none⟩] [4, 9, 11, 12, 13, 14, 15])
  (.seq (.seq (.reg [⟨some 16, .fa 0 (.s 1), none⟩,
    ⟨some 17, .ldh false false 1 (.s 16), none⟩] [16])
  (.block 0 (.seq (.reg [⟨some 19, .ar .eql (.s 17) (.c (.int .i64 1)), none⟩,
    ⟨some 18, .mv false (.s 19), none⟩] [19])
  (.cond (.s 18) (.reg [⟨some 20, .mv false (.s 5), none⟩,
    ⟨some 21, .fa 9 (.s 1), none⟩,
    ⟨some 22, .ldh false false 1 (.s 21), none⟩,
    ⟨some 23, .cvs (.s 22), none⟩,
    ⟨some 24, .call 0 n_pack_Text [(false, (.s 20)), (false, (.s 23))], none⟩,
    ⟨some 5, .mv true (.s 24), none⟩] [1, 17, 18, 20, 21, 22, 23, 24])
  (.seq (.reg [⟨some 26, .ar .eql (.s 17) (.c (.int .i64 3)), none⟩,
    ⟨some 25, .mv false (.s 26), none⟩] [17, 18, 26])
  (.cond (.s 25) (.reg [⟨some 27, .mv false (.s 5), none⟩,
    ⟨some 28, .fa 3 (.s 1), none⟩,
    ⟨some 29, .ldh false true 4 (.s 28), none⟩,
    ⟨some 30, .call 0 n_record_PutEntry [(false, (.s 27)), (false, (.s 29))], none⟩,
    ⟨some 5, .mv true (.s 30), none⟩] [1, 25, 27, 28, 29, 30])
  (.skip)))))))
  (jn_record_Encode_1)))), true⟩
/-- bailey/baileyref11.Encode -/
def tf_ref11_Encode : TF := ⟨49, [.tmp 2, .tmp 3],
  .seq (.reg [⟨some 1, .lbx true (.s 0), none⟩,
    ⟨some 2, .mv true (.c (.nils)), none⟩,
    ⟨some 3, .mv false (.c (.int .i64 0)), none⟩] [0, 2, 3])
  (.seq (.seq (.reg [⟨some 5, .ldl false true 10 1 (.s 1), none⟩,
    ⟨some 6, .call 0 n_ref11_Check [(false, (.s 5))], none⟩,
    ⟨some 7, .ar .neq (.s 6) (.c (.int .i64 0)), none⟩] [5, 6])
  (.cond (.s 7) (.seq (.reg [⟨some 2, .mv true (.c (.nils)), none⟩,
    ⟨some 3, .mv false (.c (.int .i64 1)), none⟩] [])
  (.ret))
  (.skip)))
  (.seq (.reg [⟨some 8, .fa 0 (.s 1), none⟩,
    ⟨some 9, .ldl false false 1 1 (.s 8), none⟩,
    ⟨some 10, .call 0 n_ref02_Num [(false, (.c (.nils))), (false, (.s 9))], none⟩,
    ⟨some 4, .mv true (.s 10), none⟩] [7, 8, 9, 10])
  (.seq (.seq (.reg [⟨some 11, .fa 0 (.s 1), none⟩,
    ⟨some 12, .ldl false false 1 1 (.s 11), none⟩] [11])
  (.block 0 (.seq (.reg [⟨some 14, .ar .eql (.s 12) (.c (.int .i64 1)), none⟩,
    ⟨some 13, .mv false (.s 14), none⟩] [14])
  (.cond (.s 13) (.seq (.reg [⟨some 15, .mv false (.s 4), none⟩,
    ⟨some 16, .fa 7 (.s 1), none⟩,
    ⟨some 17, .ldl false false 1 1 (.s 16), none⟩,
    ⟨some 18, .call 0 n_ref02_Num [(false, (.s 15)), (false, (.s 17))], none⟩,
    ⟨some 19, .fa 1 (.s 1), none⟩,
    ⟨some 20, .ldl false false 1 1 (.s 19), none⟩,
    ⟨some 21, .call 0 n_ref02_Num [(false, (.s 18)), (false, (.s 20))], none⟩,
    ⟨some 22, .fa 8 (.s 1), none⟩,
    ⟨some 23, .ldl false false 1 1 (.s 22), none⟩,
    ⟨some 24, .call 0 n_ref02_Num [(false, (.s 21)), (false, (.s 23))], none⟩,
    ⟨some 4, .mv true (.s 24), none⟩] [12, 13, 15, 16, 17, 18, 19, 20, 21, 22, 23, 24])
  (.seq (.reg [⟨some 25, .mv false (.s 4), none⟩,
    ⟨some 26, .fa 9 (.s 1), none⟩,
    ⟨some 27, .ldl false false 1 1 (.s 26), none⟩,
    ⟨some 28, .cvs (.s 27), none⟩,
    ⟨some 29, .call 0 n_ref02_Text [(false, (.s 25)), (false, (.s 28))], none⟩,
    ⟨some 2, .mv true (.s 29), none⟩,
    ⟨some 3, .mv false (.c (.int .i64 0)), none⟩] [])
  (.ret)))
  (.seq (.reg [⟨some 31, .ar .eql (.s 12) (.c (.int .i64 2)), none⟩,
    ⟨some 30, .mv false (.s 31), none⟩] [13, 31])
  (.cond (.s 30) (.seq (.reg [⟨some 32, .mv false (.s 4), none⟩,
    ⟨some 33, .fa 1 (.s 1), none⟩,
    ⟨some 34, .ldl false false 1 1 (.s 33), none⟩,
    ⟨some 35, .call 0 n_ref02_Num [(false, (.s 32)), (false, (.s 34))], none⟩,
    ⟨some 36, .fa 2 (.s 1), none⟩,
    ⟨some 37, .ldl false false 1 1 (.s 36), none⟩,
    ⟨some 38, .call 0 n_ref02_Num [(false, (.s 35)), (false, (.s 37))], none⟩,
    ⟨some 2, .mv true (.s 38), none⟩,
    ⟨some 3, .mv false (.c (.int .i64 0)), none⟩] [])
  (.ret))
  (.seq (.reg [⟨some 40, .ar .eql (.s 12) (.c (.int .i64 3)), none⟩,
    ⟨some 39, .mv false (.s 40), none⟩] [12, 30, 40])
  (.cond (.s 39) (.seq (.reg [⟨some 41, .mv false (.s 4), none⟩,
    ⟨some 42, .fa 3 (.s 1), none⟩,
    ⟨some 43, .ldl false true 4 1 (.s 42), none⟩,
    ⟨some 44, .call 0 n_ref11_PutEntry [(false, (.s 41)), (false, (.s 43))], none⟩,
    ⟨some 2, .mv true (.s 44), none⟩,
    ⟨some 3, .mv false (.c (.int .i64 0)), none⟩] [])
  (.ret))
  (.skip)))))))))
  (.seq (.reg [⟨some 45, .mv false (.s 4), none⟩,
    ⟨some 46, .fa 7 (.s 1), none⟩,
    ⟨some 47, .ldl false false 1 1 (.s 46), none⟩,
    ⟨some 48, .call 0 n_ref02_Num [(false, (.s 45)), (false, (.s 47))], none⟩,
    ⟨some 2, .mv true (.s 48), none⟩,
    ⟨some 3, .mv false (.c (.int .i64 0)), none⟩] [])
  (.ret))))), true⟩
/-- bailey/record.Check -/
def tf_record_Check : TF := ⟨42, [.tmp 2],
  .seq (.reg [⟨some 1, .hbx true (.s 0), none⟩,
    ⟨some 2, .mv false (.c (.int .i64 0)), none⟩] [0, 2])
  (.seq (.reg [⟨some 4, .fa 0 (.s 1), none⟩,
    ⟨some 5, .ldh false false 1 (.s 4), none⟩,
    ⟨some 6, .ar .leq (.c (.int .i64 1)) (.s 5), none⟩,
    ⟨some 7, .mv false (.s 6), none⟩,
    ⟨some 8, .fa 0 (.s 1), (some (7, true))⟩,
    ⟨some 9, .ldh false false 1 (.s 8), (some (7, true))⟩,
    ⟨some 10, .ar .leq (.s 9) (.c (.int .i64 4)), (some (7, true))⟩,
    ⟨some 11, .pick (.s 7) (.s 10) (.c (.bool false)), none⟩,
    ⟨some 3, .mv false (.s 11), none⟩] [4, 5, 6, 7, 8, 9, 10, 11])
  (.seq (.block 0 (.seq (.reg [⟨some 13, .mv false (.s 3), none⟩,
    ⟨some 14, .not (.s 13), none⟩,
    ⟨some 15, .mv false (.s 14), none⟩,
    ⟨some 16, .call 0 n_record_ofRecord [(false, (.s 1))], (some (15, false))⟩,
    ⟨some 17, .call 0 n_record_allIn [(false, (.s 16))], (some (15, false))⟩,
    ⟨some 18, .not (.s 17), (some (15, false))⟩,
    ⟨some 19, .pick (.s 15) (.c (.bool true)) (.s 18), none⟩,
    ⟨some 20, .mv false (.s 19), none⟩,
    ⟨some 21, .fa 9 (.s 1), (some (20, false))⟩,
    ⟨some 22, .ldh false false 1 (.s 21), (some (20, false))⟩,
    ⟨some 23, .len false (.s 22), (some (20, false))⟩,
    ⟨some 24, .ar .gtr (.s 23) (.c (.int .i64 131072)), (some (20, false))⟩,
    ⟨some 25, .pick (.s 20) (.c (.bool true)) (.s 24), none⟩,
    ⟨some 12, .mv false (.s 25), none⟩] [3, 13, 14, 15, 16, 17, 18, 19, 20, 21, 22, 23, 24, 25])
  (.cond (.s 12) (.seq (.reg [⟨some 2, .mv false (.c (.int .i64 1)), none⟩] [])
  (.ret))
  (.seq (.reg [⟨some 27, .fa 0 (.s 1), none⟩,
    ⟨some 28, .ldh false false 1 (.s 27), none⟩,
    ⟨some 29, .ar .eql (.s 28) (.c (.int .i64 3)), none⟩,
    ⟨some 30, .mv false (.s 29), none⟩,
    ⟨some 31, .fa 3 (.s 1), (some (30, true))⟩,
    ⟨some 32, .ldh false true 4 (.s 31), (some (30, true))⟩,
    ⟨some 33, .call 0 n_record_Entry [(false, (.s 32))], (some (30, true))⟩,
    ⟨some 34, .not (.s 33), (some (30, true))⟩,
    ⟨some 35, .pick (.s 30) (.s 34) (.c (.bool false)), none⟩,
    ⟨some 26, .mv false (.s 35), none⟩] [12, 27, 28, 29, 30, 31, 32, 33, 34, 35])
  (.cond (.s 26) (.seq (.reg [⟨some 2, .mv false (.c (.int .i64 1)), none⟩] [])
  (.ret))
  (.seq (.reg [⟨some 37, .ldh false true 10 (.s 1), none⟩,
    ⟨some 38, .ldh false true 10 (.s 1), none⟩,
    ⟨some 39, .call 2 n_record_bare [(false, (.s 38))], none⟩,
    ⟨some 40, .call 0 n_record_Same [(false, (.s 37)), (false, (.s 39))], none⟩,
    ⟨some 41, .not (.s 40), none⟩,
    ⟨some 36, .mv false (.s 41), none⟩] [1, 26, 37, 38, 39, 40, 41])
  (.cond (.s 36) (.seq (.reg [⟨some 2, .mv false (.c (.int .i64 1)), none⟩] [])
  (.ret))
  (.skip))))))))
  (.seq (.reg [⟨some 2, .mv false (.c (.int .i64 0)), none⟩] [])
  (.ret)))), true⟩
/-- bailey/baileyref11.Check -/
def tf_ref11_Check : TF := ⟨62, [.tmp 2],
  .seq (.reg [⟨some 1, .lbx true (.s 0), none⟩,
    ⟨some 2, .mv false (.c (.int .i64 0)), none⟩] [0, 2])
  (.seq (.reg [⟨some 4, .fa 0 (.s 1), none⟩,
    ⟨some 5, .ldl false false 1 1 (.s 4), none⟩,
    ⟨some 6, .call 0 n_ref11_in [(false, (.s 5)), (false, (.c (.int .i64 1))), (false, (.c (.int .i64 4)))], none⟩,
    ⟨some 7, .mv false (.s 6), none⟩,
    ⟨some 8, .ldl false true 10 1 (.s 1), (some (7, true))⟩,
    ⟨some 9, .ldl false true 10 1 (.s 1), (some (7, true))⟩,
    ⟨some 10, .call 0 n_ref11_only [(false, (.s 9))], (some (7, true))⟩,
    ⟨some 11, .call 0 n_ref11_Same [(false, (.s 8)), (false, (.s 10))], (some (7, true))⟩,
    ⟨some 12, .pick (.s 7) (.s 11) (.c (.bool false)), none⟩,
    ⟨some 13, .mv false (.s 12), none⟩,
    ⟨some 14, .fa 1 (.s 1), (some (13, true))⟩,
    ⟨some 15, .ldl false false 1 1 (.s 14), (some (13, true))⟩,
    ⟨some 16, .call 0 n_ref11_in [(false, (.s 15)), (false, (.c (.int .i64 0))), (false, (.c (.int .i64 2147483648)))], (some (13, true))⟩,
    ⟨some 17, .pick (.s 13) (.s 16) (.c (.bool false)), none⟩,
    ⟨some 18, .mv false (.s 17), none⟩,
    ⟨some 19, .fa 2 (.s 1), (some (18, true))⟩,
    ⟨some 20, .ldl false false 1 1 (.s 19), (some (18, true))⟩,
    ⟨some 21, .call 0 n_ref11_in [(false, (.s 20)), (false, (.c (.int .i64 0))), (false, (.c (.int .i64 7)))], (some (18, true))⟩,
    ⟨some 22, .pick (.s 18) (.s 21) (.c (.bool false)), none⟩,
    ⟨some 23, .mv false (.s 22), none⟩,
    ⟨some 24, .fa 7 (.s 1), (some (23, true))⟩,
    ⟨some 25, .ldl false false 1 1 (.s 24), (some (23, true))⟩,
    ⟨some 26, .call 0 n_ref11_in [(false, (.s 25)), (false, (.c (.int .i64 0))), (false, (.c (.int .i64 2147483648)))], (some (23, true))⟩,
    ⟨some 27, .pick (.s 23) (.s 26) (.c (.bool false)), none⟩,
    ⟨some 28, .mv false (.s 27), none⟩,
    ⟨some 29, .fa 8 (.s 1), (some (28, true))⟩,
    ⟨some 30, .ldl false false 1 1 (.s 29), (some (28, true))⟩,
    ⟨some 31, .call 0 n_ref11_in [(false, (.s 30)), (false, (.c (.int .i64 0))), (false, (.c (.int .i64 127)))], (some (28, true))⟩,
    ⟨some 32, .pick (.s 28) (.s 31) (.c (.bool false)), none⟩,
    ⟨some 33, .mv false (.s 32), none⟩,
    ⟨some 34, .fa 9 (.s 1), (some (33, true))⟩,
    ⟨some 35, .ldl false false 1 1 (.s 34), (some (33, true))⟩,
    ⟨some 36, .len false (.s 35), (some (33, true))⟩,
    ⟨some 37, .ar .leq (.s 36) (.c (.int .i64 131072)), (some (33, true))⟩,
    ⟨some 38, .pick (.s 33) (.s 37) (.c (.bool false)), none⟩,
    ⟨some 3, .mv false (.s 38), none⟩] [4, 5, 6, 7, 8, 9, 10, 11, 12, 13, 14, 15, 16, 17, 18, 19, 20, 21, 22, 23, 24, 25, 26, 27, 28, 29, 30, 31, 32, 33, 34, 35, 36, 37, 38])
  (.seq (.seq (.reg [⟨some 39, .mv false (.s 3), none⟩,
    ⟨some 40, .not (.s 39), none⟩,
    ⟨some 41, .mv false (.s 40), none⟩,
    ⟨some 42, .fa 0 (.s 1), (some (41, false))⟩,
    ⟨some 43, .ldl false false 1 1 (.s 42), (some (41, false))⟩,
    ⟨some 44, .ar .eql (.s 43) (.c (.int .i64 3)), (some (41, false))⟩,
    ⟨some 45, .mv false (.s 44), (some (41, false))⟩,
    ⟨some 46, .fa 3 (.s 1), (some (45, true))⟩,
    ⟨some 47, .ldl false true 4 1 (.s 46), (some (45, true))⟩,
    ⟨some 48, .call 0 n_ref11_Entry [(false, (.s 47))], (some (45, true))⟩,
    ⟨some 49, .not (.s 48), (some (45, true))⟩,
    ⟨some 50, .pick (.s 45) (.s 49) (.c (.bool false)), (some (41, false))⟩,
    ⟨some 51, .pick (.s 41) (.c (.bool true)) (.s 50), none⟩,
    ⟨some 52, .mv false (.s 51), none⟩,
    ⟨some 53, .fa 0 (.s 1), (some (52, false))⟩,
    ⟨some 54, .ldl false false 1 1 (.s 53), (some (52, false))⟩,
    ⟨some 55, .ar .eql (.s 54) (.c (.int .i64 4)), (some (52, false))⟩,
    ⟨some 56, .mv false (.s 55), (some (52, false))⟩,
    ⟨some 57, .fa 7 (.s 1), (some (56, true))⟩,
    ⟨some 58, .ldl false false 1 1 (.s 57), (some (56, true))⟩,
    ⟨some 59, .ar .lss (.s 58) (.c (.int .i64 1)), (some (56, true))⟩,
    ⟨some 60, .pick (.s 56) (.s 59) (.c (.bool false)), (some (52, false))⟩,
    ⟨some 61, .pick (.s 52) (.c (.bool true)) (.s 60), none⟩] [1, 3, 39, 40, 41, 42, 43, 44, 45, 46, 47, 48, 49, 50, 51, 52, 53, 54, 55, 56, 57, 58, 59, 60])
  (.cond (.s 61) (.seq (.reg [⟨some 2, .mv false (.c (.int .i64 1)), none⟩] [])
  (.ret))
  (.skip)))
  (.seq (.reg [⟨some 2, .mv false (.c (.int .i64 0)), none⟩] [])
  (.ret)))), true⟩
/-- bailey/record.Same -/
def tf_record_Same : TF := ⟨52, [.tmp 4],
  .seq (.reg [⟨some 2, .lbx true (.s 0), none⟩,
    ⟨some 3, .lbx true (.s 1), none⟩,
    ⟨some 4, .mv false (.c (.bool false)), none⟩] [0, 1, 4])
  (.seq (.seq (.reg [⟨some 5, .fa 3 (.s 2), none⟩,
    ⟨some 6, .ldl false true 4 2 (.s 5), none⟩,
    ⟨some 7, .fa 3 (.s 3), none⟩,
    ⟨some 8, .ldl false true 4 3 (.s 7), none⟩,
    ⟨some 9, .call 0 n_record_SameEntry [(false, (.s 6)), (false, (.s 8))], none⟩,
    ⟨some 10, .not (.s 9), none⟩,
    ⟨some 11, .mv false (.s 10), none⟩,
    ⟨some 12, .fa 9 (.s 2), (some (11, false))⟩,
    ⟨some 13, .ldl false false 1 2 (.s 12), (some (11, false))⟩,
    ⟨some 14, .fa 9 (.s 3), (some (11, false))⟩,
    ⟨some 15, .ldl false false 1 3 (.s 14), (some (11, false))⟩,
    ⟨some 16, .call 0 n_slices_Equal_byte_byte [(false, (.s 13)), (false, (.s 15))], (some (11, false))⟩,
    ⟨some 17, .not (.s 16), (some (11, false))⟩,
    ⟨some 18, .pick (.s 11) (.c (.bool true)) (.s 17), none⟩] [5, 6, 7, 8, 9, 10, 11, 12, 13, 14, 15, 16, 17])
  (.cond (.s 18) (.seq (.reg [⟨some 4, .mv false (.c (.bool false)), none⟩] [])
  (.ret))
  (.skip)))
  (.seq (.reg [⟨some 19, .fa 0 (.s 2), none⟩,
    ⟨some 20, .ldl false false 1 2 (.s 19), none⟩,
    ⟨some 21, .fa 0 (.s 3), none⟩,
    ⟨some 22, .ldl false false 1 3 (.s 21), none⟩,
    ⟨some 23, .ar .eql (.s 20) (.s 22), none⟩,
    ⟨some 24, .mv false (.s 23), none⟩,
    ⟨some 25, .fa 1 (.s 2), (some (24, true))⟩,
    ⟨some 26, .ldl false false 1 2 (.s 25), (some (24, true))⟩,
    ⟨some 27, .fa 1 (.s 3), (some (24, true))⟩,
    ⟨some 28, .ldl false false 1 3 (.s 27), (some (24, true))⟩,
    ⟨some 29, .ar .eql (.s 26) (.s 28), (some (24, true))⟩,
    ⟨some 30, .pick (.s 24) (.s 29) (.c (.bool false)), none⟩,
    ⟨some 31, .mv false (.s 30), none⟩,
    ⟨some 32, .fa 2 (.s 2), (some (31, true))⟩,
    ⟨some 33, .ldl false false 1 2 (.s 32), (some (31, true))⟩,
    ⟨some 34, .fa 2 (.s 3), (some (31, true))⟩,
    ⟨some 35, .ldl false false 1 3 (.s 34), (some (31, true))⟩,
    ⟨some 36, .ar .eql (.s 33) (.s 35), (some (31, true))⟩,
    ⟨some 37, .pick (.s 31) (.s 36) (.c (.bool false)), none⟩,
    ⟨some 38, .mv false (.s 37), none⟩,
    ⟨some 39, .fa 7 (.s 2), (some (38, true))⟩,
    ⟨some 40, .ldl false false 1 2 (.s 39), (some (38, true))⟩,
    ⟨some 41, .fa 7 (.s 3), (some (38, true))⟩,
    ⟨some 42, .ldl false false 1 3 (.s 41), (some (38, true))⟩,
    ⟨some 43, .ar .eql (.s 40) (.s 42), (some (38, true))⟩,
    ⟨some 44, .pick (.s 38) (.s 43) (.c (.bool false)), none⟩,
    ⟨some 45, .mv false (.s 44), none⟩,
    ⟨some 46, .fa 8 (.s 2), (some (45, true))⟩,
    ⟨some 47, .ldl false false 1 2 (.s 46), (some (45, true))⟩,
    ⟨some 48, .fa 8 (.s 3), (some (45, true))⟩,
    ⟨some 49, .ldl false false 1 3 (.s 48), (some (45, true))⟩,
    ⟨some 50, .ar .eql (.s 47) (.s 49), (some (45, true))⟩,
    ⟨some 51, .pick (.s 45) (.s 50) (.c (.bool false)), none⟩,
    ⟨some 4, .mv false (.s 51), none⟩] [])
  (.ret))), true⟩
/-- bailey/baileyref11.Same -/
def tf_ref11_Same : TF := ⟨54, [.tmp 4],
  .seq (.reg [⟨some 2, .lbx true (.s 0), none⟩,
    ⟨some 3, .lbx true (.s 1), none⟩,
    ⟨some 4, .mv false (.c (.bool false)), none⟩] [0, 1, 4])
  (.seq (.reg [⟨some 5, .fa 0 (.s 2), none⟩,
    ⟨some 6, .ldl false false 1 2 (.s 5), none⟩,
    ⟨some 7, .fa 0 (.s 3), none⟩,
    ⟨some 8, .ldl false false 1 3 (.s 7), none⟩,
    ⟨some 9, .ar .eql (.s 6) (.s 8), none⟩,
    ⟨some 10, .mv false (.s 9), none⟩,
    ⟨some 11, .fa 1 (.s 2), (some (10, true))⟩,
    ⟨some 12, .ldl false false 1 2 (.s 11), (some (10, true))⟩,
    ⟨some 13, .fa 1 (.s 3), (some (10, true))⟩,
    ⟨some 14, .ldl false false 1 3 (.s 13), (some (10, true))⟩,
    ⟨some 15, .ar .eql (.s 12) (.s 14), (some (10, true))⟩,
    ⟨some 16, .pick (.s 10) (.s 15) (.c (.bool false)), none⟩,
    ⟨some 17, .mv false (.s 16), none⟩,
    ⟨some 18, .fa 2 (.s 2), (some (17, true))⟩,
    ⟨some 19, .ldl false false 1 2 (.s 18), (some (17, true))⟩,
    ⟨some 20, .fa 2 (.s 3), (some (17, true))⟩,
    ⟨some 21, .ldl false false 1 3 (.s 20), (some (17, true))⟩,
    ⟨some 22, .ar .eql (.s 19) (.s 21), (some (17, true))⟩,
    ⟨some 23, .pick (.s 17) (.s 22) (.c (.bool false)), none⟩,
    ⟨some 24, .mv false (.s 23), none⟩,
    ⟨some 25, .fa 3 (.s 2), (some (24, true))⟩,
    ⟨some 26, .ldl false true 4 2 (.s 25), (some (24, true))⟩,
    ⟨some 27, .fa 3 (.s 3), (some (24, true))⟩,
    ⟨some 28, .ldl false true 4 3 (.s 27), (some (24, true))⟩,
    ⟨some 29, .call 0 n_ref11_SameEntry [(false, (.s 26)), (false, (.s 28))], (some (24, true))⟩,
    ⟨some 30, .pick (.s 24) (.s 29) (.c (.bool false)), none⟩,
    ⟨some 31, .mv false (.s 30), none⟩,
    ⟨some 32, .fa 7 (.s 2), (some (31, true))⟩,
    ⟨some 33, .ldl false false 1 2 (.s 32), (some (31, true))⟩,
    ⟨some 34, .fa 7 (.s 3), (some (31, true))⟩,
    ⟨some 35, .ldl false false 1 3 (.s 34), (some (31, true))⟩,
    ⟨some 36, .ar .eql (.s 33) (.s 35), (some (31, true))⟩,
    ⟨some 37, .pick (.s 31) (.s 36) (.c (.bool false)), none⟩,
    ⟨some 38, .mv false (.s 37), none⟩,
    ⟨some 39, .fa 8 (.s 2), (some (38, true))⟩,
    ⟨some 40, .ldl false false 1 2 (.s 39), (some (38, true))⟩,
    ⟨some 41, .fa 8 (.s 3), (some (38, true))⟩,
    ⟨some 42, .ldl false false 1 3 (.s 41), (some (38, true))⟩,
    ⟨some 43, .ar .eql (.s 40) (.s 42), (some (38, true))⟩,
    ⟨some 44, .pick (.s 38) (.s 43) (.c (.bool false)), none⟩,
    ⟨some 45, .mv false (.s 44), none⟩,
    ⟨some 46, .fa 9 (.s 2), (some (45, true))⟩,
    ⟨some 47, .ldl false false 1 2 (.s 46), (some (45, true))⟩,
    ⟨some 48, .cvs (.s 47), (some (45, true))⟩,
    ⟨some 49, .fa 9 (.s 3), (some (45, true))⟩,
    ⟨some 50, .ldl false false 1 3 (.s 49), (some (45, true))⟩,
    ⟨some 51, .cvs (.s 50), (some (45, true))⟩,
    ⟨some 52, .ar .eql (.s 48) (.s 51), (some (45, true))⟩,
    ⟨some 53, .pick (.s 45) (.s 52) (.c (.bool false)), none⟩,
    ⟨some 4, .mv false (.s 53), none⟩] [])
  (.ret)), true⟩
/-- bailey/record.Decode -/
def jn_record_Decode_1 : TC :=
  .seq (.seq (.reg [⟨some 33, .mv false (.s 4), none⟩,
    ⟨some 34, .call 0 n_pack_Reader_End [(false, (.s 33))], none⟩,
    ⟨some 6, .mv false (.s 34), none⟩] [4, 30, 33, 34])
  (.seq (.reg [⟨some 35, .mv false (.s 6), none⟩,
    ⟨some 36, .ar .neq (.s 35) (.c (.int .i64 0)), none⟩] [35])
  (.cond (.s 36) (.seq (.reg [⟨some 37, .build [.int .i64 0, .int .i64 0, .int .i64 0, .int .i64 0, .int .i64 0, .int .i64 0, .nils, .int .i64 0, .int .i64 0, .nils] [], none⟩,
    ⟨some 38, .mv false (.s 6), none⟩,
    ⟨none, .stl true 10 2 (.s 2) (.s 37), none⟩,
    ⟨some 3, .mv false (.s 38), none⟩] [])
  (.ret))
  (.skip))))
  (.seq (.reg [⟨some 39, .ldh false true 10 (.s 5), none⟩,
    ⟨none, .stl true 10 2 (.s 2) (.s 39), none⟩,
    ⟨some 3, .mv false (.c (.int .i64 0)), none⟩] [])
  (.ret))
def jn_record_Decode_2 : TC :=
  .seq (.seq (.reg [⟨some 28, .ldh false true 10 (.s 5), none⟩,
    ⟨some 29, .call 0 n_record_Check [(false, (.s 28))], none⟩,
    ⟨some 30, .ar .neq (.s 29) (.c (.int .i64 0)), none⟩] [23, 28, 29])
  (.cond (.s 30) (.reg [⟨some 31, .mv false (.s 4), none⟩,
    ⟨some 32, .call 0 n_pack_Reader_Fail [(false, (.s 31)), (false, (.c (.int .i64 3)))], none⟩] [30, 31, 32])
  (.skip)))
  (jn_record_Decode_1)
def tf_record_Decode : TF := ⟨40, [.cell 2 true 10, .tmp 3],
  .seq (.reg [⟨some 2, .lal [.int .i64 0, .int .i64 0, .int .i64 0, .int .i64 0, .int .i64 0, .int .i64 0, .nils, .int .i64 0, .int .i64 0, .nils], none⟩,
    ⟨some 3, .mv false (.c (.int .i64 0)), none⟩] [3])
  (.seq (.reg [⟨some 7, .mv true (.s 0), none⟩,
    ⟨some 8, .call 0 n_pack_Open [(false, (.s 7))], none⟩,
    ⟨some 4, .mv false (.s 8), none⟩] [0, 7, 8])
  (.seq (.reg [⟨some 9, .mv false (.s 4), none⟩,
    ⟨some 10, .call 0 n_pack_Reader_Num [(false, (.s 9)), (false, (.c (.int .i64 4)))], none⟩,
    ⟨some 11, .build [.int .i64 0, .int .i64 0, .int .i64 0, .int .i64 0, .int .i64 0, .int .i64 0, .nils, .int .i64 0, .int .i64 0, .nils] [(0, 1, (.s 10))], none⟩,
    ⟨some 5, .hal [.int .i64 0, .int .i64 0, .int .i64 0, .int .i64 0, .int .i64 0, .int .i64 0, .nils, .int .i64 0, .int .i64 0, .nils], none⟩,
    ⟨none, .sth true 10 (.s 5) (.s 11), none⟩] [9, 10, 11])
  (.seq (.reg [⟨some 12, .mv false (.s 4), none⟩,
    ⟨some 13, .call 0 n_record_ofRecord [(false, (.s 5))], none⟩,
    ⟨some 14, .call 0 n_record_take [(false, (.s 12)), (false, (.s 13))], none⟩] [12, 13, 14])
  (.seq (.seq (.reg [⟨some 15, .fa 0 (.s 5), none⟩,
    ⟨some 16, .ldh false false 1 (.s 15), none⟩] [15])
  (.block 0 (.seq (.reg [⟨some 18, .ar .eql (.s 16) (.c (.int .i64 1)), none⟩,
    ⟨some 17, .mv false (.s 18), none⟩] [18])
  (.cond (.s 17) (.reg [⟨some 19, .mv false (.s 4), none⟩,
    ⟨some 20, .call 0 n_pack_Reader_Text [(false, (.s 19)), (false, (.c (.int .i64 131072)))], none⟩,
    ⟨some 21, .cvb (.s 20), none⟩,
    ⟨some 22, .fa 9 (.s 5), none⟩,
    ⟨none, .sth true 1 (.s 22) (.s 21), none⟩] [16, 17, 19, 20, 21, 22])
  (.seq (.reg [⟨some 24, .ar .eql (.s 16) (.c (.int .i64 3)), none⟩,
    ⟨some 23, .mv false (.s 24), none⟩] [16, 17, 24])
  (.cond (.s 23) (.reg [⟨some 25, .mv false (.s 4), none⟩,
    ⟨some 26, .call 0 n_record_ReadEntry [(false, (.s 25))], none⟩,
    ⟨some 27, .fa 3 (.s 5), none⟩,
    ⟨none, .sth true 4 (.s 27) (.s 26), none⟩] [23, 25, 26, 27])
  (.skip)))))))
  (jn_record_Decode_2))))), true⟩
/-- bailey/baileyref11.Decode -/
def jn_ref11_Decode_1 : TC :=
  .seq (.seq (.reg [⟨some 57, .mv false (.s 4), none⟩,
    ⟨some 58, .call 0 n_ref02_Reader_End [(false, (.s 57))], none⟩,
    ⟨some 6, .mv false (.s 58), none⟩] [4, 54, 57, 58])
  (.seq (.reg [⟨some 59, .mv false (.s 6), none⟩,
    ⟨some 60, .ar .neq (.s 59) (.c (.int .i64 0)), none⟩] [59])
  (.cond (.s 60) (.seq (.reg [⟨some 61, .build [.int .i64 0, .int .i64 0, .int .i64 0, .int .i64 0, .int .i64 0, .int .i64 0, .nils, .int .i64 0, .int .i64 0, .nils] [], none⟩,
    ⟨some 62, .mv false (.s 6), none⟩,
    ⟨none, .stl true 10 2 (.s 2) (.s 61), none⟩,
    ⟨some 3, .mv false (.s 62), none⟩] [])
  (.ret))
  (.skip))))
  (.seq (.reg [⟨some 63, .ldl true true 10 5 (.s 5), none⟩,
    ⟨none, .stl true 10 2 (.s 2) (.s 63), none⟩,
    ⟨some 3, .mv false (.c (.int .i64 0)), none⟩] [])
  (.ret))
def jn_ref11_Decode_2 : TC :=
  .seq (.seq (.reg [⟨some 47, .mv false (.s 4), none⟩,
    ⟨some 48, .call 0 n_ref02_Reader_Err [(false, (.s 47))], none⟩,
    ⟨some 49, .ar .eql (.s 48) (.c (.int .i64 0)), none⟩,
    ⟨some 50, .mv false (.s 49), none⟩,
    ⟨some 51, .ldl false true 10 5 (.s 5), (some (50, true))⟩,
    ⟨some 52, .call 0 n_ref11_Check [(false, (.s 51))], (some (50, true))⟩,
    ⟨some 53, .ar .neq (.s 52) (.c (.int .i64 0)), (some (50, true))⟩,
    ⟨some 54, .pick (.s 50) (.s 53) (.c (.bool false)), none⟩] [42, 47, 48, 49, 50, 51, 52, 53])
  (.cond (.s 54) (.reg [⟨some 55, .mv false (.s 4), none⟩,
    ⟨some 56, .call 0 n_ref02_Reader_Fail [(false, (.s 55)), (false, (.c (.int .i64 3)))], none⟩] [54, 55, 56])
  (.skip)))
  (jn_ref11_Decode_1)
def tf_ref11_Decode : TF := ⟨64, [.cell 2 true 10, .tmp 3],
  .seq (.reg [⟨some 2, .lal [.int .i64 0, .int .i64 0, .int .i64 0, .int .i64 0, .int .i64 0, .int .i64 0, .nils, .int .i64 0, .int .i64 0, .nils], none⟩,
    ⟨some 3, .mv false (.c (.int .i64 0)), none⟩] [3])
  (.seq (.reg [⟨some 7, .mv true (.s 0), none⟩,
    ⟨some 8, .call 0 n_ref02_Open [(false, (.s 7))], none⟩,
    ⟨some 4, .mv false (.s 8), none⟩] [0, 7, 8])
  (.seq (.reg [⟨some 9, .mv false (.s 4), none⟩,
    ⟨some 10, .call 0 n_ref02_Reader_Num [(false, (.s 9)), (false, (.c (.int .i64 4)))], none⟩,
    ⟨some 11, .build [.int .i64 0, .int .i64 0, .int .i64 0, .int .i64 0, .int .i64 0, .int .i64 0, .nils, .int .i64 0, .int .i64 0, .nils] [(0, 1, (.s 10))], none⟩,
    ⟨some 5, .lal [.int .i64 0, .int .i64 0, .int .i64 0, .int .i64 0, .int .i64 0, .int .i64 0, .nils, .int .i64 0, .int .i64 0, .nils], none⟩,
    ⟨none, .stl true 10 5 (.s 5) (.s 11), none⟩] [9, 10, 11])
  (.seq (.seq (.reg [⟨some 12, .fa 0 (.s 5), none⟩,
    ⟨some 13, .ldl false false 1 5 (.s 12), none⟩] [12])
  (.block 0 (.seq (.reg [⟨some 15, .ar .eql (.s 13) (.c (.int .i64 1)), none⟩,
    ⟨some 14, .mv false (.s 15), none⟩] [15])
  (.cond (.s 14) (.seq (.reg [⟨some 16, .mv false (.s 4), none⟩,
    ⟨some 17, .call 0 n_ref02_Reader_Num [(false, (.s 16)), (false, (.c (.int .i64 2147483648)))], none⟩,
    ⟨some 18, .fa 7 (.s 5), none⟩,
    ⟨none, .stl false 1 5 (.s 18) (.s 17), none⟩] [13, 14, 16, 17, 18])
  (.seq (.reg [⟨some 19, .mv false (.s 4), none⟩,
    ⟨some 20, .call 0 n_ref02_Reader_Num [(false, (.s 19)), (false, (.c (.int .i64 2147483648)))], none⟩,
    ⟨some 21, .fa 1 (.s 5), none⟩,
    ⟨none, .stl false 1 5 (.s 21) (.s 20), none⟩] [19, 20, 21])
  (.seq (.reg [⟨some 22, .mv false (.s 4), none⟩,
    ⟨some 23, .call 0 n_ref02_Reader_Num [(false, (.s 22)), (false, (.c (.int .i64 127)))], none⟩,
    ⟨some 24, .fa 8 (.s 5), none⟩,
    ⟨none, .stl false 1 5 (.s 24) (.s 23), none⟩] [22, 23, 24])
  (.reg [⟨some 25, .mv false (.s 4), none⟩,
    ⟨some 26, .call 0 n_ref02_Reader_Text [(false, (.s 25)), (false, (.c (.int .i64 131072)))], none⟩,
    ⟨some 27, .cvb (.s 26), none⟩,
    ⟨some 28, .fa 9 (.s 5), none⟩,
    ⟨none, .stl true 1 5 (.s 28) (.s 27), none⟩] [25, 26, 27, 28]))))
  (.seq (.reg [⟨some 30, .ar .eql (.s 13) (.c (.int .i64 2)), none⟩,
    ⟨some 29, .mv false (.s 30), none⟩] [14, 30])
  (.cond (.s 29) (.seq (.reg [⟨some 31, .mv false (.s 4), none⟩,
    ⟨some 32, .call 0 n_ref02_Reader_Num [(false, (.s 31)), (false, (.c (.int .i64 2147483648)))], none⟩,
    ⟨some 33, .fa 1 (.s 5), none⟩,
    ⟨none, .stl false 1 5 (.s 33) (.s 32), none⟩] [13, 29, 31, 32, 33])
  (.reg [⟨some 34, .mv false (.s 4), none⟩,
    ⟨some 35, .call 0 n_ref02_Reader_Num [(false, (.s 34)), (false, (.c (.int .i64 7)))], none⟩,
    ⟨some 36, .fa 2 (.s 5), none⟩,
    ⟨none, .stl false 1 5 (.s 36) (.s 35), none⟩] [34, 35, 36]))
  (.seq (.reg [⟨some 38, .ar .eql (.s 13) (.c (.int .i64 3)), none⟩,
    ⟨some 37, .mv false (.s 38), none⟩] [29, 38])
  (.cond (.s 37) (.reg [⟨some 39, .mv false (.s 4), none⟩,
    ⟨some 40, .call 0 n_ref11_ReadEntry [(false, (.s 39))], none⟩,
    ⟨some 41, .fa 3 (.s 5), none⟩,
    ⟨none, .stl true 4 5 (.s 41) (.s 40), none⟩] [13, 37, 39, 40, 41])
  (.seq (.reg [⟨some 43, .ar .eql (.s 13) (.c (.int .i64 4)), none⟩,
    ⟨some 42, .mv false (.s 43), none⟩] [13, 37, 43])
  (.cond (.s 42) (.reg [⟨some 44, .mv false (.s 4), none⟩,
    ⟨some 45, .call 0 n_ref02_Reader_Num [(false, (.s 44)), (false, (.c (.int .i64 2147483648)))], none⟩,
    ⟨some 46, .fa 7 (.s 5), none⟩,
    ⟨none, .stl false 1 5 (.s 46) (.s 45), none⟩] [42, 44, 45, 46])
  (.skip)))))))))))
  (jn_ref11_Decode_2)))), true⟩
/-- bailey/rlog.New -/
def lp_rlog_New_1 : TC :=
  .seq (.reg [⟨some 21, .ar .lss (.s 20) (.s 19), none⟩] [])
  (.seq (.cond (.s 21) (.skip)
  (.exit 0))
  (.seq (.block 1 (.seq (.reg [⟨some 22, .ia 4 (.s 18) (.s 20), none⟩,
    ⟨some 23, .ldh false true 4 (.s 22), none⟩,
    ⟨some 11, .lal [.int .i64 0, .int .i64 0, .int .i64 0, .nils], none⟩,
    ⟨none, .stl true 4 11 (.s 11) (.s 23), none⟩] [21, 22, 23])
  (.seq (.reg [⟨some 24, .mv false (.s 9), none⟩,
    ⟨some 25, .ldl false true 4 11 (.s 11), none⟩,
    ⟨some 26, .call 0 n_rlog_Log_Append [(false, (.s 24)), (false, (.s 25))], none⟩,
    ⟨some 27, .ar .neq (.s 26) (.c (.int .i64 0)), none⟩] [11, 24, 25, 26])
  (.cond (.s 27) (.exit 0)
  (.skip)))))
  (.reg [⟨some 28, .ar .add (.s 20) (.c (.int .i64 1)), none⟩,
    ⟨some 20, .mv false (.s 28), none⟩] [27, 28])))
def jn_rlog_New_2 : TC :=
  .seq (.reg [⟨some 29, .mv false (.s 9), none⟩,
    ⟨some 8, .mv false (.s 29), none⟩] [])
  (.ret)
def tf_rlog_New : TF := ⟨30, [.tmp 8],
  .seq (.reg [⟨some 8, .mv false (.c (.nilp)), none⟩] [8, 11, 20, 21, 22, 23, 24, 25, 26, 27, 28])
  (.seq (.reg [⟨some 12, .mv false (.s 0), none⟩,
    ⟨some 13, .mv false (.s 1), none⟩,
    ⟨some 14, .mv false (.s 2), none⟩,
    ⟨some 15, .build [.int .i64 0, .int .i64 0, .int .i64 0] [(0, 1, (.s 12)), (1, 1, (.s 13)), (2, 1, (.s 14))], none⟩,
    ⟨some 16, .build [.int .i64 0, .int .i64 0, .int .i64 0, .nils, .bool false] [(0, 3, (.s 15)), (4, 1, (.c (.bool true)))], none⟩,
    ⟨some 17, .hbx true (.s 16), none⟩,
    ⟨some 9, .mv false (.s 17), none⟩] [0, 1, 2, 12, 13, 14, 15, 16, 17])
  (.seq (.seq (.reg [⟨some 18, .mv true (.s 3), none⟩,
    ⟨some 19, .len false (.s 18), none⟩,
    ⟨some 20, .mv false (.c (.int .i64 0)), none⟩] [3])
  (.block 0 (.loop lp_rlog_New_1)))
  (jn_rlog_New_2))), true⟩
/-- bailey/record.fits -/
def tf_record_fits : TF := ⟨30, [.tmp 4],
  .seq (.reg [⟨some 2, .lbx true (.s 0), none⟩,
    ⟨some 3, .lbx true (.s 1), none⟩,
    ⟨some 4, .mv false (.c (.bool false)), none⟩] [0, 1, 4])
  (.seq (.seq (.reg [⟨some 5, .fa 0 (.s 3), none⟩,
    ⟨some 6, .ldl false false 1 3 (.s 5), none⟩] [5])
  (.block 0 (.seq (.reg [⟨some 8, .ar .eql (.s 6) (.c (.int .i64 1)), none⟩,
    ⟨some 7, .mv false (.s 8), none⟩] [8])
  (.cond (.s 7) (.seq (.reg [⟨some 9, .fa 7 (.s 3), none⟩,
    ⟨some 10, .ldl false false 1 3 (.s 9), none⟩,
    ⟨some 11, .fa 2 (.s 2), none⟩,
    ⟨some 12, .ldl false false 1 2 (.s 11), none⟩,
    ⟨some 13, .ar .geq (.s 10) (.s 12), none⟩,
    ⟨some 4, .mv false (.s 13), none⟩] [])
  (.ret))
  (.seq (.reg [⟨some 15, .ar .eql (.s 6) (.c (.int .i64 3)), none⟩,
    ⟨some 14, .mv false (.s 15), none⟩] [7, 15])
  (.cond (.s 14) (.seq (.reg [⟨some 16, .fa 3 (.s 3), none⟩,
    ⟨some 17, .fa 0 (.s 16), none⟩,
    ⟨some 18, .ldl false false 1 3 (.s 17), none⟩,
    ⟨some 19, .ar .sub (.s 18) (.c (.int .i64 1)), none⟩,
    ⟨some 20, .ldl false true 7 2 (.s 2), none⟩,
    ⟨some 21, .call 0 n_record_last [(false, (.s 20))], none⟩,
    ⟨some 22, .ar .eql (.s 19) (.s 21), none⟩,
    ⟨some 4, .mv false (.s 22), none⟩] [])
  (.ret))
  (.seq (.reg [⟨some 24, .ar .eql (.s 6) (.c (.int .i64 4)), none⟩,
    ⟨some 23, .mv false (.s 24), none⟩] [6, 14, 24])
  (.cond (.s 23) (.seq (.reg [⟨some 25, .fa 7 (.s 3), none⟩,
    ⟨some 26, .ldl false false 1 3 (.s 25), none⟩,
    ⟨some 27, .fa 2 (.s 2), none⟩,
    ⟨some 28, .ldl false false 1 2 (.s 27), none⟩,
    ⟨some 29, .ar .gtr (.s 26) (.s 28), none⟩,
    ⟨some 4, .mv false (.s 29), none⟩] [])
  (.ret))
  (.skip)))))))))
  (.seq (.reg [⟨some 4, .mv false (.c (.bool true)), none⟩] [])
  (.ret))), true⟩
/-- bailey/record.without -/
def tf_record_without : TF := ⟨9, [.tmp 4],
  .seq (.reg [⟨some 4, .mv true (.c (.nils)), none⟩] [4])
  (.seq (.reg [⟨some 5, .mv true (.s 0), none⟩,
    ⟨some 6, .call 0 n_slices_Clone_api_Entry_api_Entry [(false, (.s 5))], none⟩,
    ⟨some 7, .mv false (.s 1), none⟩,
    ⟨some 8, .call 0 n_slices_DeleteFunc_api_Entry_api_Entry [(false, (.s 6)), (false, (.s 7))], none⟩,
    ⟨some 4, .mv true (.s 8), none⟩] [])
  (.ret)), true⟩
/-- bailey/record.Apply$1 -/
def tf_record_Apply_1 : TF := ⟨9, [.tmp 3],
  .seq (.reg [⟨some 2, .lbx true (.s 0), none⟩,
    ⟨some 3, .mv false (.c (.bool false)), none⟩] [0, 3])
  (.seq (.reg [⟨some 4, .fa 0 (.s 2), none⟩,
    ⟨some 5, .ldl false false 1 2 (.s 4), none⟩,
    ⟨some 6, .fa 7 (.s 1), none⟩,
    ⟨some 7, .ldh false false 1 (.s 6), none⟩,
    ⟨some 8, .ar .leq (.s 5) (.s 7), none⟩,
    ⟨some 3, .mv false (.s 8), none⟩] [])
  (.ret)), true⟩
/-- bailey/record.Apply$2 -/
def tf_record_Apply_2 : TF := ⟨9, [.tmp 3],
  .seq (.reg [⟨some 2, .lbx true (.s 0), none⟩,
    ⟨some 3, .mv false (.c (.bool false)), none⟩] [0, 3])
  (.seq (.reg [⟨some 4, .fa 0 (.s 2), none⟩,
    ⟨some 5, .ldl false false 1 2 (.s 4), none⟩,
    ⟨some 6, .fa 7 (.s 1), none⟩,
    ⟨some 7, .ldh false false 1 (.s 6), none⟩,
    ⟨some 8, .ar .geq (.s 5) (.s 7), none⟩,
    ⟨some 3, .mv false (.s 8), none⟩] [])
  (.ret)), true⟩
/-- (*bailey/pack.Reader).Num -/
def lp_pack_Reader_Num_1 : TC :=
  .seq (.reg [⟨some 17, .ar .lss (.s 16) (.s 15), none⟩] [])
  (.seq (.cond (.s 17) (.skip)
  (.exit 0))
  (.seq (.block 1 (.seq (.reg [⟨some 18, .ia 1 (.s 14) (.s 16), none⟩,
    ⟨some 19, .ldh false false 1 (.s 18), none⟩,
    ⟨some 7, .mv false (.s 19), none⟩] [17, 18, 19])
  (.reg [⟨some 20, .mv false (.s 5), none⟩,
    ⟨some 21, .ar .shl (.s 20) (.c (.int .u64 7)), none⟩,
    ⟨some 22, .mv false (.s 7), none⟩,
    ⟨some 23, .ar .andNot (.s 22) (.c (.int .u8 128)), none⟩,
    ⟨some 24, .cvi .i64 (.s 23), none⟩,
    ⟨some 25, .ar .or (.s 21) (.s 24), none⟩,
    ⟨some 5, .mv false (.s 25), none⟩] [7, 20, 21, 22, 23, 24, 25])))
  (.reg [⟨some 26, .ar .add (.s 16) (.c (.int .i64 1)), none⟩,
    ⟨some 16, .mv false (.s 26), none⟩] [26])))
def jn_pack_Reader_Num_2 : TC :=
  .seq (.seq (.reg [⟨some 32, .mv false (.s 0), none⟩,
    ⟨some 33, .call 0 n_pack_Reader_works [(false, (.s 32))], none⟩,
    ⟨some 34, .not (.s 33), none⟩] [0, 29, 32, 33])
  (.cond (.s 34) (.seq (.reg [⟨some 4, .mv false (.c (.int .i64 0)), none⟩] [])
  (.ret))
  (.skip)))
  (.seq (.reg [⟨some 35, .mv false (.s 5), none⟩,
    ⟨some 4, .mv false (.s 35), none⟩] [])
  (.ret))
def tf_pack_Reader_Num : TF := ⟨36, [.tmp 4],
  .seq (.reg [⟨some 4, .mv false (.c (.int .i64 0)), none⟩] [4, 5, 7, 16, 17, 18, 19, 20, 21, 22, 23, 24, 25, 26])
  (.seq (.seq (.reg [⟨some 8, .mv false (.s 0), none⟩,
    ⟨some 9, .call 0 n_pack_Reader_works [(false, (.s 8))], none⟩,
    ⟨some 10, .not (.s 9), none⟩] [8, 9])
  (.cond (.s 10) (.seq (.reg [⟨some 4, .mv false (.c (.int .i64 0)), none⟩] [])
  (.ret))
  (.skip)))
  (.seq (.reg [⟨some 5, .mv false (.c (.int .i64 0)), none⟩] [10])
  (.seq (.seq (.reg [⟨some 11, .mv false (.s 0), none⟩,
    ⟨some 12, .mv false (.s 0), none⟩,
    ⟨some 13, .call 0 n_pack_Reader_width [(false, (.s 12))], none⟩,
    ⟨some 14, .call 0 n_pack_Reader_take [(false, (.s 11)), (false, (.s 13))], none⟩,
    ⟨some 15, .len false (.s 14), none⟩,
    ⟨some 16, .mv false (.c (.int .i64 0)), none⟩] [11, 12, 13])
  (.block 0 (.loop lp_pack_Reader_Num_1)))
  (.seq (.seq (.reg [⟨some 27, .mv false (.s 5), none⟩,
    ⟨some 28, .mv false (.s 1), none⟩,
    ⟨some 29, .ar .gtr (.s 27) (.s 28), none⟩] [1, 14, 15, 16, 17, 27, 28])
  (.cond (.s 29) (.reg [⟨some 30, .mv false (.s 0), none⟩,
    ⟨some 31, .call 0 n_pack_Reader_Fail [(false, (.s 30)), (false, (.c (.int .i64 5)))], none⟩] [29, 30, 31])
  (.skip)))
  (jn_pack_Reader_Num_2))))), true⟩
/-- (*bailey/pack.Reader).End -/
def tf_pack_Reader_End : TF := ⟨8, [.tmp 2],
  .seq (.reg [⟨some 2, .mv false (.c (.int .i64 0)), none⟩] [2])
  (.seq (.seq (.reg [⟨some 3, .mv false (.s 0), none⟩,
    ⟨some 4, .call 0 n_pack_Reader_Left [(false, (.s 3))], none⟩,
    ⟨some 5, .ar .gtr (.s 4) (.c (.int .i64 0)), none⟩] [3, 4])
  (.cond (.s 5) (.seq (.reg [⟨some 2, .mv false (.c (.int .i64 3)), none⟩] [])
  (.ret))
  (.skip)))
  (.seq (.reg [⟨some 6, .mv false (.s 0), none⟩,
    ⟨some 7, .call 0 n_pack_Reader_Err [(false, (.s 6))], none⟩,
    ⟨some 2, .mv false (.s 7), none⟩] [])
  (.ret))), true⟩
/-- bailey/pack.Num -/
def tf_pack_Num : TF := ⟨9, [.tmp 4],
  .seq (.reg [⟨some 4, .mv true (.c (.nils)), none⟩] [4])
  (.seq (.reg [⟨some 5, .mv true (.s 0), none⟩,
    ⟨some 6, .call 0 n_pack_room [(false, (.s 5)), (false, (.c (.int .i64 9)))], none⟩,
    ⟨some 7, .mv false (.s 1), none⟩,
    ⟨some 8, .call 0 n_pack_put [(true, (.s 6)), (false, (.s 7))], none⟩,
    ⟨some 4, .mv true (.s 8), none⟩] [])
  (.ret)), true⟩
/-- bailey/baileyref02.Num -/
def lp_ref02_Num_1 : TC :=
  .seq (.seq (.reg [⟨some 9, .mv false (.s 6), none⟩,
    ⟨some 10, .ar .add (.s 9) (.c (.int .i64 1)), none⟩,
    ⟨some 11, .mv false (.s 5), none⟩,
    ⟨some 12, .len false (.s 11), none⟩,
    ⟨some 13, .ar .lss (.s 10) (.s 12), none⟩] [9, 10, 11, 12])
  (.cond (.s 13) (.skip)
  (.exit 0)))
  (.seq (.block 1 (.reg [⟨some 16, .mv false (.s 5), none⟩,
    ⟨some 17, .mv false (.s 6), none⟩,
    ⟨some 18, .mv false (.s 5), none⟩,
    ⟨some 19, .mv false (.s 6), none⟩,
    ⟨some 20, .ia 1 (.s 18) (.s 19), none⟩,
    ⟨some 21, .ldh false false 1 (.s 20), none⟩,
    ⟨some 22, .ar .add (.s 21) (.c (.int .u8 128)), none⟩,
    ⟨some 23, .ia 1 (.s 16) (.s 17), none⟩,
    ⟨none, .sth false 1 (.s 23) (.s 22), none⟩] [13, 16, 17, 18, 19, 20, 21, 22, 23]))
  (.reg [⟨some 14, .mv false (.s 6), none⟩,
    ⟨some 15, .ar .add (.s 14) (.c (.int .i64 1)), none⟩,
    ⟨some 6, .mv false (.s 15), none⟩] [14, 15]))
def tf_ref02_Num : TF := ⟨28, [.tmp 4],
  .seq (.reg [⟨some 4, .mv true (.c (.nils)), none⟩] [4, 6, 9, 10, 11, 12, 13, 14, 15, 16, 17, 18, 19, 20, 21, 22, 23])
  (.seq (.reg [⟨some 7, .mv false (.s 1), none⟩,
    ⟨some 8, .call 0 n_ref02_groups [(false, (.s 7))], none⟩,
    ⟨some 5, .mv true (.s 8), none⟩] [1, 7, 8])
  (.seq (.seq (.reg [⟨some 6, .mv false (.c (.int .i64 0)), none⟩] [])
  (.block 0 (.loop lp_ref02_Num_1)))
  (.seq (.reg [⟨some 24, .mv true (.s 0), none⟩,
    ⟨some 25, .call 0 n_ref02_copied [(false, (.s 24))], none⟩,
    ⟨some 26, .mv false (.s 5), none⟩,
    ⟨some 27, .app true 1 1 (.s 25) (.s 26), none⟩,
    ⟨some 4, .mv true (.s 27), none⟩] [])
  (.ret)))), true⟩
/-- (*bailey/baileyref02.Reader).Num -/
def lp_ref02_Reader_Num_1 : TC :=
  .seq (.seq (.reg [⟨some 7, .mv false (.s 0), none⟩,
    ⟨some 8, .nilc (.s 7), none⟩,
    ⟨some 9, .fa 1 (.s 8), none⟩,
    ⟨some 10, .ldh false false 1 (.s 9), none⟩,
    ⟨some 11, .ar .eql (.s 10) (.c (.int .i64 0)), none⟩] [7, 8, 9, 10])
  (.cond (.s 11) (.skip)
  (.exit 0)))
  (.seq (.block 1 (.seq (.reg [⟨some 14, .mv false (.s 6), none⟩,
    ⟨some 15, .mv false (.s 0), none⟩,
    ⟨some 16, .nilc (.s 15), none⟩,
    ⟨some 17, .fa 0 (.s 16), none⟩,
    ⟨some 18, .ldh false false 1 (.s 17), none⟩,
    ⟨some 19, .len false (.s 18), none⟩,
    ⟨some 20, .ar .geq (.s 14) (.s 19), none⟩] [11, 14, 15, 16, 17, 18, 19])
  (.cond (.s 20) (.reg [⟨some 21, .mv false (.s 0), none⟩,
    ⟨some 22, .call 0 n_ref02_Reader_Fail [(false, (.s 21)), (false, (.c (.int .i64 4)))], none⟩] [20, 21, 22])
  (.seq (.reg [⟨some 23, .mv false (.s 6), none⟩,
    ⟨some 24, .ar .eql (.s 23) (.c (.int .i64 0)), none⟩,
    ⟨some 25, .mv false (.s 24), none⟩,
    ⟨some 26, .mv false (.s 0), (some (25, true))⟩,
    ⟨some 27, .nilc (.s 26), (some (25, true))⟩,
    ⟨some 28, .fa 0 (.s 27), (some (25, true))⟩,
    ⟨some 29, .ldh false false 1 (.s 28), (some (25, true))⟩,
    ⟨some 30, .ia 1 (.s 29) (.c (.int .i64 0)), (some (25, true))⟩,
    ⟨some 31, .ldh false false 1 (.s 30), (some (25, true))⟩,
    ⟨some 32, .ar .eql (.s 31) (.c (.int .u8 128)), (some (25, true))⟩,
    ⟨some 33, .pick (.s 25) (.s 32) (.c (.bool false)), none⟩,
    ⟨some 34, .mv false (.s 33), none⟩,
    ⟨some 35, .mv false (.s 6), (some (34, false))⟩,
    ⟨some 36, .ar .eql (.s 35) (.c (.int .i64 8)), (some (34, false))⟩,
    ⟨some 37, .mv false (.s 36), (some (34, false))⟩,
    ⟨some 38, .mv false (.s 0), (some (37, true))⟩,
    ⟨some 39, .nilc (.s 38), (some (37, true))⟩,
    ⟨some 40, .fa 0 (.s 39), (some (37, true))⟩,
    ⟨some 41, .ldh false false 1 (.s 40), (some (37, true))⟩,
    ⟨some 42, .ia 1 (.s 41) (.c (.int .i64 8)), (some (37, true))⟩,
    ⟨some 43, .ldh false false 1 (.s 42), (some (37, true))⟩,
    ⟨some 44, .ar .geq (.s 43) (.c (.int .u8 128)), (some (37, true))⟩,
    ⟨some 45, .pick (.s 37) (.s 44) (.c (.bool false)), (some (34, false))⟩,
    ⟨some 46, .pick (.s 34) (.c (.bool true)) (.s 45), none⟩] [20, 23, 24, 25, 26, 27, 28, 29, 30, 31, 32, 33, 34, 35, 36, 37, 38, 39, 40, 41, 42, 43, 44, 45])
  (.cond (.s 46) (.reg [⟨some 47, .mv false (.s 0), none⟩,
    ⟨some 48, .call 0 n_ref02_Reader_Fail [(false, (.s 47)), (false, (.c (.int .i64 3)))], none⟩] [46, 47, 48])
  (.seq (.reg [⟨some 49, .mv false (.s 5), none⟩,
    ⟨some 50, .ar .mul (.s 49) (.c (.int .i64 128)), none⟩,
    ⟨some 51, .mv false (.s 0), none⟩,
    ⟨some 52, .nilc (.s 51), none⟩,
    ⟨some 53, .fa 0 (.s 52), none⟩,
    ⟨some 54, .ldh false false 1 (.s 53), none⟩,
    ⟨some 55, .mv false (.s 6), none⟩,
    ⟨some 56, .ia 1 (.s 54) (.s 55), none⟩,
    ⟨some 57, .ldh false false 1 (.s 56), none⟩,
    ⟨some 58, .ar .rem (.s 57) (.c (.int .u8 128)), none⟩,
    ⟨some 59, .cvi .i64 (.s 58), none⟩,
    ⟨some 60, .ar .add (.s 50) (.s 59), none⟩,
    ⟨some 5, .mv false (.s 60), none⟩] [46, 49, 50, 51, 52, 53, 54, 55, 56, 57, 58, 59, 60])
  (.seq (.reg [⟨some 61, .mv false (.s 0), none⟩,
    ⟨some 62, .nilc (.s 61), none⟩,
    ⟨some 63, .fa 0 (.s 62), none⟩,
    ⟨some 64, .ldh false false 1 (.s 63), none⟩,
    ⟨some 65, .mv false (.s 6), none⟩,
    ⟨some 66, .ia 1 (.s 64) (.s 65), none⟩,
    ⟨some 67, .ldh false false 1 (.s 66), none⟩,
    ⟨some 68, .ar .lss (.s 67) (.c (.int .u8 128)), none⟩] [61, 62, 63, 64, 65, 66, 67])
  (.cond (.s 68) (.seq (.reg [⟨some 69, .mv false (.s 0), none⟩,
    ⟨some 70, .mv false (.s 0), none⟩,
    ⟨some 71, .nilc (.s 70), none⟩,
    ⟨some 72, .fa 0 (.s 71), none⟩,
    ⟨some 73, .ldh false false 1 (.s 72), none⟩,
    ⟨some 74, .mv false (.s 6), none⟩,
    ⟨some 75, .ar .add (.s 74) (.c (.int .i64 1)), none⟩,
    ⟨some 76, .slc 1 (.s 73) (some (.s 75)) none none, none⟩,
    ⟨some 77, .nilc (.s 69), none⟩,
    ⟨some 78, .fa 0 (.s 77), none⟩,
    ⟨none, .sth true 1 (.s 78) (.s 76), none⟩] [6, 68, 69, 70, 71, 72, 73, 74, 75, 76, 77, 78])
  (.seq (.seq (.reg [⟨some 79, .mv false (.s 5), none⟩,
    ⟨some 80, .mv false (.s 1), none⟩,
    ⟨some 81, .ar .gtr (.s 79) (.s 80), none⟩] [1, 79, 80])
  (.cond (.s 81) (.seq (.reg [⟨some 82, .mv false (.s 0), none⟩,
    ⟨some 83, .call 0 n_ref02_Reader_Fail [(false, (.s 82)), (false, (.c (.int .i64 5)))], none⟩] [])
  (.seq (.reg [⟨some 4, .mv false (.c (.int .i64 0)), none⟩] [])
  (.ret)))
  (.skip)))
  (.seq (.reg [⟨some 84, .mv false (.s 5), none⟩,
    ⟨some 4, .mv false (.s 84), none⟩] [])
  (.ret))))
  (.skip)))))))))
  (.reg [⟨some 12, .mv false (.s 6), none⟩,
    ⟨some 13, .ar .add (.s 12) (.c (.int .i64 1)), none⟩,
    ⟨some 6, .mv false (.s 13), none⟩] [12, 13, 68]))
def tf_ref02_Reader_Num : TF := ⟨85, [.tmp 4],
  .seq (.reg [⟨some 4, .mv false (.c (.int .i64 0)), none⟩] [4, 5, 6, 7, 8, 9, 10, 11, 12, 13, 14, 15, 16, 17, 18, 19, 20, 21, 22, 23, 24, 25, 26, 27, 28, 29, 30, 31, 32, 33, 34, 35, 36, 37, 38, 39, 40, 41, 42, 43, 44, 45, 46, 47, 48, 49, 50, 51, 52, 53, 54, 55, 56, 57, 58, 59, 60, 61, 62, 63, 64, 65, 66, 67, 68, 69, 70, 71, 72, 73, 74, 75, 76, 77, 78, 79, 80, 81, 82, 83, 84])
  (.seq (.reg [⟨some 5, .mv false (.c (.int .i64 0)), none⟩] [])
  (.seq (.seq (.reg [⟨some 6, .mv false (.c (.int .i64 0)), none⟩] [])
  (.block 0 (.loop lp_ref02_Reader_Num_1)))
  (.seq (.reg [⟨some 4, .mv false (.c (.int .i64 0)), none⟩] [])
  (.ret)))), true⟩
/-- (*bailey/baileyref02.Reader).End -/
def tf_ref02_Reader_End : TF := ⟨20, [.tmp 2],
  .seq (.reg [⟨some 2, .mv false (.c (.int .i64 0)), none⟩] [2])
  (.seq (.seq (.reg [⟨some 3, .mv false (.s 0), none⟩,
    ⟨some 4, .nilc (.s 3), none⟩,
    ⟨some 5, .fa 1 (.s 4), none⟩,
    ⟨some 6, .ldh false false 1 (.s 5), none⟩,
    ⟨some 7, .ar .eql (.s 6) (.c (.int .i64 0)), none⟩,
    ⟨some 8, .mv false (.s 7), none⟩,
    ⟨some 9, .mv false (.s 0), (some (8, true))⟩,
    ⟨some 10, .nilc (.s 9), (some (8, true))⟩,
    ⟨some 11, .fa 0 (.s 10), (some (8, true))⟩,
    ⟨some 12, .ldh false false 1 (.s 11), (some (8, true))⟩,
    ⟨some 13, .len false (.s 12), (some (8, true))⟩,
    ⟨some 14, .ar .gtr (.s 13) (.c (.int .i64 0)), (some (8, true))⟩,
    ⟨some 15, .pick (.s 8) (.s 14) (.c (.bool false)), none⟩] [3, 4, 5, 6, 7, 8, 9, 10, 11, 12, 13, 14])
  (.cond (.s 15) (.seq (.reg [⟨some 2, .mv false (.c (.int .i64 3)), none⟩] [])
  (.ret))
  (.skip)))
  (.seq (.reg [⟨some 16, .mv false (.s 0), none⟩,
    ⟨some 17, .nilc (.s 16), none⟩,
    ⟨some 18, .fa 1 (.s 17), none⟩,
    ⟨some 19, .ldh false false 1 (.s 18), none⟩,
    ⟨some 2, .mv false (.s 19), none⟩] [])
  (.ret))), true⟩
/-- bailey/baileyref11.last -/
def tf_ref11_last : TF := ⟨18, [.tmp 2],
  .seq (.reg [⟨some 1, .lbx true (.s 0), none⟩,
    ⟨some 2, .mv false (.c (.int .i64 0)), none⟩] [0, 2])
  (.seq (.seq (.reg [⟨some 3, .fa 6 (.s 1), none⟩,
    ⟨some 4, .ldl false false 1 1 (.s 3), none⟩,
    ⟨some 5, .len false (.s 4), none⟩,
    ⟨some 6, .ar .eql (.s 5) (.c (.int .i64 0)), none⟩] [3, 4, 5])
  (.cond (.s 6) (.seq (.reg [⟨some 7, .fa 2 (.s 1), none⟩,
    ⟨some 8, .ldl false false 1 1 (.s 7), none⟩,
    ⟨some 2, .mv false (.s 8), none⟩] [])
  (.ret))
  (.skip)))
  (.seq (.reg [⟨some 9, .fa 6 (.s 1), none⟩,
    ⟨some 10, .ldl false false 1 1 (.s 9), none⟩,
    ⟨some 11, .fa 6 (.s 1), none⟩,
    ⟨some 12, .ldl false false 1 1 (.s 11), none⟩,
    ⟨some 13, .len false (.s 12), none⟩,
    ⟨some 14, .ar .sub (.s 13) (.c (.int .i64 1)), none⟩,
    ⟨some 15, .ia 4 (.s 10) (.s 14), none⟩,
    ⟨some 16, .fa 0 (.s 15), none⟩,
    ⟨some 17, .ldh false false 1 (.s 16), none⟩,
    ⟨some 2, .mv false (.s 17), none⟩] [])
  (.ret))), true⟩
/-- bailey/pack.room -/
def tf_pack_room : TF := ⟨17, [.tmp 4],
  .seq (.reg [⟨some 4, .mv true (.c (.nils)), none⟩] [4])
  (.seq (.reg [⟨some 6, .mv false (.s 0), none⟩,
    ⟨some 7, .len false (.s 6), none⟩,
    ⟨some 8, .mv false (.s 0), none⟩,
    ⟨some 9, .len false (.s 8), none⟩,
    ⟨some 10, .mv false (.s 1), none⟩,
    ⟨some 11, .ar .add (.s 9) (.s 10), none⟩,
    ⟨some 12, .mks false 1 1 [.int .u8 0] (.s 7) (.s 11), none⟩,
    ⟨some 5, .mv true (.s 12), none⟩] [1, 6, 7, 8, 9, 10, 11, 12])
  (.seq (.reg [⟨some 13, .mv false (.s 5), none⟩,
    ⟨some 14, .mv false (.s 0), none⟩,
    ⟨some 15, .cpy 1 (.s 13) (.s 14), none⟩] [0, 13, 14, 15])
  (.seq (.reg [⟨some 16, .mv false (.s 5), none⟩,
    ⟨some 4, .mv true (.s 16), none⟩] [])
  (.ret)))), true⟩
/-- bailey/baileyref02.copied -/
def tf_ref02_copied : TF := ⟨5, [.tmp 2],
  .seq (.reg [⟨some 2, .mv true (.c (.nils)), none⟩] [2])
  (.seq (.reg [⟨some 3, .mv true (.s 0), none⟩,
    ⟨some 4, .app true 1 1 (.c (.nils)) (.s 3), none⟩,
    ⟨some 2, .mv true (.s 4), none⟩] [])
  (.ret)), true⟩
/-- bailey/record.take -/
def lp_record_take_1 : TC :=
  .seq (.reg [⟨some 9, .ar .lss (.s 8) (.s 7), none⟩] [])
  (.seq (.cond (.s 9) (.skip)
  (.exit 0))
  (.seq (.block 1 (.seq (.reg [⟨some 10, .ia 3 (.s 6) (.s 8), none⟩,
    ⟨some 11, .ldh false true 3 (.s 10), none⟩,
    ⟨some 5, .lal [.nilp, .int .i64 0, .int .i64 0], none⟩,
    ⟨none, .stl false 3 5 (.s 5) (.s 11), none⟩] [9, 10, 11])
  (.reg [⟨some 12, .fa 0 (.s 5), none⟩,
    ⟨some 13, .ldl false false 1 5 (.s 12), none⟩,
    ⟨some 14, .mv false (.s 0), none⟩,
    ⟨some 15, .fa 2 (.s 5), none⟩,
    ⟨some 16, .ldl false false 1 5 (.s 15), none⟩,
    ⟨some 17, .call 0 n_pack_Reader_Num [(false, (.s 14)), (false, (.s 16))], none⟩,
    ⟨some 18, .nilc (.s 13), none⟩,
    ⟨none, .sth false 1 (.s 18) (.s 17), none⟩] [5, 12, 13, 14, 15, 16, 17, 18])))
  (.reg [⟨some 19, .ar .add (.s 8) (.c (.int .i64 1)), none⟩,
    ⟨some 8, .mv false (.s 19), none⟩] [19])))
def tf_record_take : TF := ⟨20, [],
  .seq (.reg [⟨some 6, .mv true (.s 1), none⟩,
    ⟨some 7, .len false (.s 6), none⟩,
    ⟨some 8, .mv false (.c (.int .i64 0)), none⟩] [1, 5, 9, 10, 11, 12, 13, 14, 15, 16, 17, 18, 19])
  (.block 0 (.loop lp_record_take_1)), true⟩
/-- bailey/record.ofEntry -/
def tf_record_ofEntry : TF := ⟨16, [.tmp 2],
  .seq (.reg [⟨some 2, .mv true (.c (.nils)), none⟩] [2])
  (.seq (.reg [⟨some 3, .mv false (.s 0), none⟩,
    ⟨some 4, .nilc (.s 3), none⟩,
    ⟨some 5, .fa 0 (.s 4), none⟩,
    ⟨some 6, .build [.nilp, .int .i64 0, .int .i64 0] [(0, 1, (.s 5)), (1, 1, (.c (.int .i64 1))), (2, 1, (.c (.int .i64 2147483648)))], none⟩,
    ⟨some 7, .mv false (.s 0), none⟩,
    ⟨some 8, .nilc (.s 7), none⟩,
    ⟨some 9, .fa 1 (.s 8), none⟩,
    ⟨some 10, .build [.nilp, .int .i64 0, .int .i64 0] [(0, 1, (.s 9)), (1, 1, (.c (.int .i64 0))), (2, 1, (.c (.int .i64 2147483648)))], none⟩,
    ⟨some 11, .mv false (.s 0), none⟩,
    ⟨some 12, .nilc (.s 11), none⟩,
    ⟨some 13, .fa 2 (.s 12), none⟩,
    ⟨some 14, .build [.nilp, .int .i64 0, .int .i64 0] [(0, 1, (.s 13)), (1, 1, (.c (.int .i64 0))), (2, 1, (.c (.int .i64 2)))], none⟩,
    ⟨some 15, .bsl true 3 3 [.nilp, .int .i64 0, .int .i64 0] [(0, (.s 6)), (1, (.s 10)), (2, (.s 14))], none⟩,
    ⟨some 2, .mv true (.s 15), none⟩] [])
  (.ret)), true⟩
/-- (*bailey/pack.Reader).Text -/
def tf_pack_Reader_Text : TF := ⟨16, [.tmp 4],
  .seq (.reg [⟨some 4, .mv false (.c (.str ⟨#[]⟩)), none⟩] [4])
  (.seq (.reg [⟨some 6, .mv false (.s 0), none⟩,
    ⟨some 7, .mv false (.s 1), none⟩,
    ⟨some 8, .call 0 n_pack_Reader_Num [(false, (.s 6)), (false, (.s 7))], none⟩,
    ⟨some 5, .mv false (.s 8), none⟩] [1, 6, 7, 8])
  (.seq (.seq (.reg [⟨some 9, .mv false (.s 0), none⟩,
    ⟨some 10, .call 0 n_pack_Reader_works [(false, (.s 9))], none⟩,
    ⟨some 11, .not (.s 10), none⟩] [9, 10])
  (.cond (.s 11) (.seq (.reg [⟨some 4, .mv false (.c (.str ⟨#[]⟩)), none⟩] [])
  (.ret))
  (.skip)))
  (.seq (.reg [⟨some 12, .mv false (.s 0), none⟩,
    ⟨some 13, .mv false (.s 5), none⟩,
    ⟨some 14, .call 0 n_pack_Reader_take [(false, (.s 12)), (false, (.s 13))], none⟩,
    ⟨some 15, .cvs (.s 14), none⟩,
    ⟨some 4, .mv false (.s 15), none⟩] [])
  (.ret)))), true⟩
/-- (*bailey/pack.Reader).Fail -/
def tf_pack_Reader_Fail : TF := ⟨18, [],
  .seq (.seq (.reg [⟨some 4, .mv false (.s 0), none⟩,
    ⟨some 5, .call 0 n_pack_Reader_works [(false, (.s 4))], none⟩,
    ⟨some 6, .not (.s 5), none⟩,
    ⟨some 7, .mv false (.s 6), none⟩,
    ⟨some 8, .mv false (.s 1), (some (7, false))⟩,
    ⟨some 9, .ar .eql (.s 8) (.c (.int .i64 0)), (some (7, false))⟩,
    ⟨some 10, .pick (.s 7) (.c (.bool true)) (.s 9), none⟩] [4, 5, 6, 7, 8, 9])
  (.cond (.s 10) (.ret)
  (.skip)))
  (.reg [⟨some 11, .mv false (.s 0), none⟩,
    ⟨some 12, .mv false (.s 0), none⟩,
    ⟨some 13, .mv false (.s 1), none⟩,
    ⟨some 14, .nilc (.s 11), none⟩,
    ⟨some 15, .fa 1 (.s 14), none⟩,
    ⟨none, .sth false 1 (.s 15) (.s 13), none⟩,
    ⟨some 16, .nilc (.s 12), none⟩,
    ⟨some 17, .fa 0 (.s 16), none⟩,
    ⟨none, .sth false 1 (.s 17) (.c (.nils)), none⟩] []), true⟩
/-- (*bailey/baileyref02.Reader).Text -/
def jn_ref02_Reader_Text_1 : TC :=
  .seq (.seq (.reg [⟨some 26, .mv false (.s 0), none⟩,
    ⟨some 27, .nilc (.s 26), none⟩,
    ⟨some 28, .fa 1 (.s 27), none⟩,
    ⟨some 29, .ldh false false 1 (.s 28), none⟩,
    ⟨some 30, .ar .neq (.s 29) (.c (.int .i64 0)), none⟩] [23, 26, 27, 28, 29])
  (.cond (.s 30) (.seq (.reg [⟨some 4, .mv false (.c (.str ⟨#[]⟩)), none⟩] [])
  (.ret))
  (.skip)))
  (.seq (.reg [⟨some 31, .mv false (.s 0), none⟩,
    ⟨some 32, .nilc (.s 31), none⟩,
    ⟨some 33, .fa 0 (.s 32), none⟩,
    ⟨some 34, .ldh false false 1 (.s 33), none⟩,
    ⟨some 35, .mv false (.s 5), none⟩,
    ⟨some 36, .slc 1 (.s 34) none (some (.s 35)) none, none⟩,
    ⟨some 37, .cvs (.s 36), none⟩,
    ⟨some 6, .mv false (.s 37), none⟩] [30, 31, 32, 33, 34, 35, 36, 37])
  (.seq (.reg [⟨some 38, .mv false (.s 0), none⟩,
    ⟨some 39, .mv false (.s 0), none⟩,
    ⟨some 40, .nilc (.s 39), none⟩,
    ⟨some 41, .fa 0 (.s 40), none⟩,
    ⟨some 42, .ldh false false 1 (.s 41), none⟩,
    ⟨some 43, .mv false (.s 5), none⟩,
    ⟨some 44, .slc 1 (.s 42) (some (.s 43)) none none, none⟩,
    ⟨some 45, .nilc (.s 38), none⟩,
    ⟨some 46, .fa 0 (.s 45), none⟩,
    ⟨none, .sth true 1 (.s 46) (.s 44), none⟩] [0, 5, 38, 39, 40, 41, 42, 43, 44, 45, 46])
  (.seq (.reg [⟨some 47, .mv false (.s 6), none⟩,
    ⟨some 4, .mv false (.s 47), none⟩] [])
  (.ret))))
def tf_ref02_Reader_Text : TF := ⟨48, [.tmp 4],
  .seq (.reg [⟨some 4, .mv false (.c (.str ⟨#[]⟩)), none⟩] [4])
  (.seq (.reg [⟨some 7, .mv false (.s 0), none⟩,
    ⟨some 8, .mv false (.s 1), none⟩,
    ⟨some 9, .call 0 n_ref02_Reader_Num [(false, (.s 7)), (false, (.s 8))], none⟩,
    ⟨some 5, .mv false (.s 9), none⟩] [1, 7, 8, 9])
  (.seq (.seq (.reg [⟨some 10, .mv false (.s 0), none⟩,
    ⟨some 11, .nilc (.s 10), none⟩,
    ⟨some 12, .fa 1 (.s 11), none⟩,
    ⟨some 13, .ldh false false 1 (.s 12), none⟩,
    ⟨some 14, .ar .eql (.s 13) (.c (.int .i64 0)), none⟩,
    ⟨some 15, .mv false (.s 14), none⟩,
    ⟨some 16, .mv false (.s 5), (some (15, true))⟩,
    ⟨some 17, .mv false (.s 0), (some (15, true))⟩,
    ⟨some 18, .nilc (.s 17), (some (15, true))⟩,
    ⟨some 19, .fa 0 (.s 18), (some (15, true))⟩,
    ⟨some 20, .ldh false false 1 (.s 19), (some (15, true))⟩,
    ⟨some 21, .len false (.s 20), (some (15, true))⟩,
    ⟨some 22, .ar .gtr (.s 16) (.s 21), (some (15, true))⟩,
    ⟨some 23, .pick (.s 15) (.s 22) (.c (.bool false)), none⟩] [10, 11, 12, 13, 14, 15, 16, 17, 18, 19, 20, 21, 22])
  (.cond (.s 23) (.reg [⟨some 24, .mv false (.s 0), none⟩,
    ⟨some 25, .call 0 n_ref02_Reader_Fail [(false, (.s 24)), (false, (.c (.int .i64 4)))], none⟩] [23, 24, 25])
  (.skip)))
  (jn_ref02_Reader_Text_1))), true⟩
/-- (*bailey/baileyref02.Reader).Fail -/
def jn_ref02_Reader_Fail_1 : TC :=
  .seq (.reg [⟨some 13, .mv false (.s 0), none⟩,
    ⟨some 14, .nilc (.s 13), none⟩,
    ⟨some 15, .fa 1 (.s 14), none⟩,
    ⟨some 16, .ldh false false 1 (.s 15), none⟩,
    ⟨some 17, .ar .neq (.s 16) (.c (.int .i64 0)), none⟩] [1, 8, 13, 14, 15, 16])
  (.cond (.s 17) (.reg [⟨some 18, .mv false (.s 0), none⟩,
    ⟨some 19, .nilc (.s 18), none⟩,
    ⟨some 20, .fa 0 (.s 19), none⟩,
    ⟨none, .sth false 1 (.s 20) (.c (.nils)), none⟩] [])
  (.skip))
def tf_ref02_Reader_Fail : TF := ⟨21, [],
  .seq (.seq (.reg [⟨some 4, .mv false (.s 0), none⟩,
    ⟨some 5, .nilc (.s 4), none⟩,
    ⟨some 6, .fa 1 (.s 5), none⟩,
    ⟨some 7, .ldh false false 1 (.s 6), none⟩,
    ⟨some 8, .ar .eql (.s 7) (.c (.int .i64 0)), none⟩] [4, 5, 6, 7])
  (.cond (.s 8) (.reg [⟨some 9, .mv false (.s 0), none⟩,
    ⟨some 10, .mv false (.s 1), none⟩,
    ⟨some 11, .nilc (.s 9), none⟩,
    ⟨some 12, .fa 1 (.s 11), none⟩,
    ⟨none, .sth false 1 (.s 12) (.s 10), none⟩] [1, 8, 9, 10, 11, 12])
  (.skip)))
  (jn_ref02_Reader_Fail_1), true⟩
/-- bailey/record.allIn -/
def tf_record_allIn : TF := ⟨6, [.tmp 2],
  .seq (.reg [⟨some 2, .mv false (.c (.bool false)), none⟩] [2])
  (.seq (.reg [⟨some 3, .mv true (.s 0), none⟩,
    ⟨some 4, .call 0 n_slices_ContainsFunc_record_number_record_number [(false, (.s 3)), (false, (.c (.fn n_record_allIn_1 [])))], none⟩,
    ⟨some 5, .not (.s 4), none⟩,
    ⟨some 2, .mv false (.s 5), none⟩] [])
  (.ret)), true⟩
/-- bailey/baileyref11.in -/
def tf_ref11_in : TF := ⟨15, [.tmp 6],
  .seq (.reg [⟨some 6, .mv false (.c (.bool false)), none⟩] [6])
  (.seq (.reg [⟨some 7, .mv false (.s 0), none⟩,
    ⟨some 8, .mv false (.s 1), none⟩,
    ⟨some 9, .ar .geq (.s 7) (.s 8), none⟩,
    ⟨some 10, .mv false (.s 9), none⟩,
    ⟨some 11, .mv false (.s 0), (some (10, true))⟩,
    ⟨some 12, .mv false (.s 2), (some (10, true))⟩,
    ⟨some 13, .ar .leq (.s 11) (.s 12), (some (10, true))⟩,
    ⟨some 14, .pick (.s 10) (.s 13) (.c (.bool false)), none⟩,
    ⟨some 6, .mv false (.s 14), none⟩] [])
  (.ret)), true⟩
/-- bailey/pack.Text -/
def tf_pack_Text : TF := ⟨15, [.tmp 4],
  .seq (.reg [⟨some 4, .mv true (.c (.nils)), none⟩] [4])
  (.seq (.reg [⟨some 5, .mv true (.s 0), none⟩,
    ⟨some 6, .mv false (.s 1), none⟩,
    ⟨some 7, .len true (.s 6), none⟩,
    ⟨some 8, .ar .add (.c (.int .i64 9)) (.s 7), none⟩,
    ⟨some 9, .call 0 n_pack_room [(false, (.s 5)), (false, (.s 8))], none⟩,
    ⟨some 10, .mv false (.s 1), none⟩,
    ⟨some 11, .len true (.s 10), none⟩,
    ⟨some 12, .call 0 n_pack_put [(true, (.s 9)), (false, (.s 11))], none⟩,
    ⟨some 13, .mv false (.s 1), none⟩,
    ⟨some 14, .app true 1 1 (.s 12) (.s 13), none⟩,
    ⟨some 4, .mv true (.s 14), none⟩] [])
  (.ret)), true⟩
/-- bailey/record.put -/
def lp_record_put_1 : TC :=
  .seq (.reg [⟨some 10, .ar .lss (.s 9) (.s 8), none⟩] [])
  (.seq (.cond (.s 10) (.skip)
  (.exit 0))
  (.seq (.block 1 (.seq (.reg [⟨some 11, .ia 3 (.s 7) (.s 9), none⟩,
    ⟨some 12, .ldh false true 3 (.s 11), none⟩,
    ⟨some 6, .lal [.nilp, .int .i64 0, .int .i64 0], none⟩,
    ⟨none, .stl false 3 6 (.s 6) (.s 12), none⟩] [10, 11, 12])
  (.reg [⟨some 13, .mv false (.s 0), none⟩,
    ⟨some 14, .fa 0 (.s 6), none⟩,
    ⟨some 15, .ldl false false 1 6 (.s 14), none⟩,
    ⟨some 16, .nilc (.s 15), none⟩,
    ⟨some 17, .ldh false false 1 (.s 16), none⟩,
    ⟨some 18, .call 0 n_pack_Num [(false, (.s 13)), (false, (.s 17))], none⟩,
    ⟨some 0, .mv true (.s 18), none⟩] [6, 13, 14, 15, 16, 17, 18])))
  (.reg [⟨some 19, .ar .add (.s 9) (.c (.int .i64 1)), none⟩,
    ⟨some 9, .mv false (.s 19), none⟩] [19])))
def tf_record_put : TF := ⟨21, [.tmp 4],
  .seq (.reg [⟨some 4, .mv true (.c (.nils)), none⟩] [4, 6, 9, 10, 11, 12, 13, 14, 15, 16, 17, 18, 19])
  (.seq (.seq (.reg [⟨some 7, .mv true (.s 1), none⟩,
    ⟨some 8, .len false (.s 7), none⟩,
    ⟨some 9, .mv false (.c (.int .i64 0)), none⟩] [1])
  (.block 0 (.loop lp_record_put_1)))
  (.seq (.reg [⟨some 20, .mv false (.s 0), none⟩,
    ⟨some 4, .mv true (.s 20), none⟩] [])
  (.ret))), true⟩
/-- bailey/baileyref02.Text -/
def tf_ref02_Text : TF := ⟨11, [.tmp 4],
  .seq (.reg [⟨some 4, .mv true (.c (.nils)), none⟩] [4])
  (.seq (.reg [⟨some 5, .mv true (.s 0), none⟩,
    ⟨some 6, .mv false (.s 1), none⟩,
    ⟨some 7, .len true (.s 6), none⟩,
    ⟨some 8, .call 0 n_ref02_Num [(false, (.s 5)), (false, (.s 7))], none⟩,
    ⟨some 9, .mv false (.s 1), none⟩,
    ⟨some 10, .app true 1 1 (.s 8) (.s 9), none⟩,
    ⟨some 4, .mv true (.s 10), none⟩] [])
  (.ret)), true⟩
/-- (*bailey/pack.Reader).works -/
def tf_pack_Reader_works : TF := ⟨18, [.tmp 2],
  .seq (.reg [⟨some 2, .mv false (.c (.bool false)), none⟩] [2])
  (.seq (.reg [⟨some 3, .mv false (.s 0), none⟩,
    ⟨some 4, .eqp true (.s 3) (.c (.nilp)), none⟩,
    ⟨some 5, .mv false (.s 4), none⟩,
    ⟨some 6, .mv false (.s 0), (some (5, true))⟩,
    ⟨some 7, .nilc (.s 6), (some (5, true))⟩,
    ⟨some 8, .fa 2 (.s 7), (some (5, true))⟩,
    ⟨some 9, .ldh false false 1 (.s 8), (some (5, true))⟩,
    ⟨some 10, .pick (.s 5) (.s 9) (.c (.bool false)), none⟩,
    ⟨some 11, .mv false (.s 10), none⟩,
    ⟨some 12, .mv false (.s 0), (some (11, true))⟩,
    ⟨some 13, .nilc (.s 12), (some (11, true))⟩,
    ⟨some 14, .fa 1 (.s 13), (some (11, true))⟩,
    ⟨some 15, .ldh false false 1 (.s 14), (some (11, true))⟩,
    ⟨some 16, .ar .eql (.s 15) (.c (.int .i64 0)), (some (11, true))⟩,
    ⟨some 17, .pick (.s 11) (.s 16) (.c (.bool false)), none⟩,
    ⟨some 2, .mv false (.s 17), none⟩] [])
  (.ret)), true⟩
/-- (*bailey/rlog.Log).there -/
def tf_rlog_Log_there : TF := ⟨11, [.tmp 2],
  .seq (.reg [⟨some 2, .mv false (.c (.bool false)), none⟩] [2])
  (.seq (.reg [⟨some 3, .mv false (.s 0), none⟩,
    ⟨some 4, .eqp true (.s 3) (.c (.nilp)), none⟩,
    ⟨some 5, .mv false (.s 4), none⟩,
    ⟨some 6, .mv false (.s 0), (some (5, true))⟩,
    ⟨some 7, .nilc (.s 6), (some (5, true))⟩,
    ⟨some 8, .fa 4 (.s 7), (some (5, true))⟩,
    ⟨some 9, .ldh false false 1 (.s 8), (some (5, true))⟩,
    ⟨some 10, .pick (.s 5) (.s 9) (.c (.bool false)), none⟩,
    ⟨some 2, .mv false (.s 10), none⟩] [])
  (.ret)), true⟩
/-- (*bailey/rlog.Log).place -/
def tf_rlog_Log_place : TF := ⟨32, [.tmp 4, .tmp 5],
  .seq (.reg [⟨some 4, .mv false (.c (.int .i64 0)), none⟩,
    ⟨some 5, .mv false (.c (.bool false)), none⟩] [4, 5])
  (.seq (.reg [⟨some 7, .mv false (.s 1), none⟩,
    ⟨some 8, .mv false (.s 0), none⟩,
    ⟨some 9, .nilc (.s 8), none⟩,
    ⟨some 10, .fa 0 (.s 9), none⟩,
    ⟨some 11, .fa 0 (.s 10), none⟩,
    ⟨some 12, .ldh false false 1 (.s 11), none⟩,
    ⟨some 13, .ar .sub (.s 7) (.s 12), none⟩,
    ⟨some 14, .ar .sub (.s 13) (.c (.int .i64 1)), none⟩,
    ⟨some 6, .mv false (.s 14), none⟩] [7, 8, 9, 10, 11, 12, 13, 14])
  (.seq (.reg [⟨some 15, .mv false (.s 6), none⟩,
    ⟨some 16, .mv false (.s 1), none⟩,
    ⟨some 17, .mv false (.s 0), none⟩,
    ⟨some 18, .nilc (.s 17), none⟩,
    ⟨some 19, .fa 0 (.s 18), none⟩,
    ⟨some 20, .fa 0 (.s 19), none⟩,
    ⟨some 21, .ldh false false 1 (.s 20), none⟩,
    ⟨some 22, .ar .gtr (.s 16) (.s 21), none⟩,
    ⟨some 23, .mv false (.s 22), none⟩,
    ⟨some 24, .mv false (.s 6), (some (23, true))⟩,
    ⟨some 25, .mv false (.s 0), (some (23, true))⟩,
    ⟨some 26, .nilc (.s 25), (some (23, true))⟩,
    ⟨some 27, .fa 3 (.s 26), (some (23, true))⟩,
    ⟨some 28, .ldh false false 1 (.s 27), (some (23, true))⟩,
    ⟨some 29, .len false (.s 28), (some (23, true))⟩,
    ⟨some 30, .ar .lss (.s 24) (.s 29), (some (23, true))⟩,
    ⟨some 31, .pick (.s 23) (.s 30) (.c (.bool false)), none⟩,
    ⟨some 4, .mv false (.s 15), none⟩,
    ⟨some 5, .mv false (.s 31), none⟩] [])
  (.ret))), true⟩
/-- bailey/rlog.own -/
def tf_rlog_own : TF := ⟨8, [.cell 2 true 4],
  .seq (.reg [⟨some 1, .lbx true (.s 0), none⟩,
    ⟨some 2, .lal [.int .i64 0, .int .i64 0, .int .i64 0, .nils], none⟩] [0])
  (.seq (.reg [⟨some 3, .fa 3 (.s 1), none⟩,
    ⟨some 4, .ldl false false 1 1 (.s 3), none⟩,
    ⟨some 5, .call 3 n_slices_Clone_byte_byte [(false, (.s 4))], none⟩,
    ⟨some 6, .fa 3 (.s 1), none⟩,
    ⟨none, .stl true 1 1 (.s 6) (.s 5), none⟩] [3, 4, 5, 6])
  (.seq (.reg [⟨some 7, .ldl true true 4 1 (.s 1), none⟩,
    ⟨none, .stl true 4 2 (.s 2) (.s 7), none⟩] [])
  (.ret))), true⟩
/-- slices.Clip[[]bailey/api.Entry,bailey/api.Entry] -/
def tf_slices_Clip_api_Entry_api_Entry : TF := ⟨9, [.tmp 2],
  .seq (.reg [⟨some 2, .mv true (.c (.nils)), none⟩] [2])
  (.seq (.reg [⟨some 3, .mv false (.s 0), none⟩,
    ⟨some 4, .mv false (.s 0), none⟩,
    ⟨some 5, .len false (.s 4), none⟩,
    ⟨some 6, .mv false (.s 0), none⟩,
    ⟨some 7, .len false (.s 6), none⟩,
    ⟨some 8, .slc 4 (.s 3) none (some (.s 5)) (some (.s 7)), none⟩,
    ⟨some 2, .mv true (.s 8), none⟩] [])
  (.ret)), true⟩
/-- bailey/record.ofRecord -/
def tf_record_ofRecord : TF := ⟨40, [.tmp 2],
  .seq (.reg [⟨some 2, .mv true (.c (.nils)), none⟩] [2])
  (.seq (.seq (.reg [⟨some 3, .mv false (.s 0), none⟩,
    ⟨some 4, .nilc (.s 3), none⟩,
    ⟨some 5, .fa 0 (.s 4), none⟩,
    ⟨some 6, .ldh false false 1 (.s 5), none⟩] [3, 4, 5])
  (.block 0 (.seq (.reg [⟨some 8, .ar .eql (.s 6) (.c (.int .i64 1)), none⟩,
    ⟨some 7, .mv false (.s 8), none⟩] [8])
  (.cond (.s 7) (.seq (.reg [⟨some 9, .mv false (.s 0), none⟩,
    ⟨some 10, .nilc (.s 9), none⟩,
    ⟨some 11, .fa 7 (.s 10), none⟩,
    ⟨some 12, .build [.nilp, .int .i64 0, .int .i64 0] [(0, 1, (.s 11)), (1, 1, (.c (.int .i64 0))), (2, 1, (.c (.int .i64 2147483648)))], none⟩,
    ⟨some 13, .mv false (.s 0), none⟩,
    ⟨some 14, .nilc (.s 13), none⟩,
    ⟨some 15, .fa 1 (.s 14), none⟩,
    ⟨some 16, .build [.nilp, .int .i64 0, .int .i64 0] [(0, 1, (.s 15)), (1, 1, (.c (.int .i64 0))), (2, 1, (.c (.int .i64 2147483648)))], none⟩,
    ⟨some 17, .mv false (.s 0), none⟩,
    ⟨some 18, .nilc (.s 17), none⟩,
    ⟨some 19, .fa 8 (.s 18), none⟩,
    ⟨some 20, .build [.nilp, .int .i64 0, .int .i64 0] [(0, 1, (.s 19)), (1, 1, (.c (.int .i64 0))), (2, 1, (.c (.int .i64 127)))], none⟩,
    ⟨some 21, .bsl true 3 3 [.nilp, .int .i64 0, .int .i64 0] [(0, (.s 12)), (1, (.s 16)), (2, (.s 20))], none⟩,
    ⟨some 2, .mv true (.s 21), none⟩] [])
  (.ret))
  (.seq (.reg [⟨some 23, .ar .eql (.s 6) (.c (.int .i64 2)), none⟩,
    ⟨some 22, .mv false (.s 23), none⟩] [7, 23])
  (.cond (.s 22) (.seq (.reg [⟨some 24, .mv false (.s 0), none⟩,
    ⟨some 25, .nilc (.s 24), none⟩,
    ⟨some 26, .fa 1 (.s 25), none⟩,
    ⟨some 27, .build [.nilp, .int .i64 0, .int .i64 0] [(0, 1, (.s 26)), (1, 1, (.c (.int .i64 0))), (2, 1, (.c (.int .i64 2147483648)))], none⟩,
    ⟨some 28, .mv false (.s 0), none⟩,
    ⟨some 29, .nilc (.s 28), none⟩,
    ⟨some 30, .fa 2 (.s 29), none⟩,
    ⟨some 31, .build [.nilp, .int .i64 0, .int .i64 0] [(0, 1, (.s 30)), (1, 1, (.c (.int .i64 0))), (2, 1, (.c (.int .i64 7)))], none⟩,
    ⟨some 32, .bsl true 3 2 [.nilp, .int .i64 0, .int .i64 0] [(0, (.s 27)), (1, (.s 31))], none⟩,
    ⟨some 2, .mv true (.s 32), none⟩] [])
  (.ret))
  (.seq (.reg [⟨some 34, .ar .eql (.s 6) (.c (.int .i64 4)), none⟩,
    ⟨some 33, .mv false (.s 34), none⟩] [6, 22, 34])
  (.cond (.s 33) (.seq (.reg [⟨some 35, .mv false (.s 0), none⟩,
    ⟨some 36, .nilc (.s 35), none⟩,
    ⟨some 37, .fa 7 (.s 36), none⟩,
    ⟨some 38, .build [.nilp, .int .i64 0, .int .i64 0] [(0, 1, (.s 37)), (1, 1, (.c (.int .i64 1))), (2, 1, (.c (.int .i64 2147483648)))], none⟩,
    ⟨some 39, .bsl true 3 1 [.nilp, .int .i64 0, .int .i64 0] [(0, (.s 38))], none⟩,
    ⟨some 2, .mv true (.s 39), none⟩] [])
  (.ret))
  (.skip)))))))))
  (.seq (.reg [⟨some 2, .mv true (.c (.nils)), none⟩] [])
  (.ret))), true⟩
/-- bailey/record.bare -/
def lp_record_bare_1 : TC :=
  .seq (.reg [⟨some 15, .ar .lss (.s 14) (.s 13), none⟩] [])
  (.seq (.cond (.s 15) (.skip)
  (.exit 0))
  (.seq (.block 1 (.seq (.reg [⟨some 16, .mv false (.s 14), none⟩,
    ⟨some 6, .mv false (.s 16), none⟩] [15, 16])
  (.reg [⟨some 17, .mv false (.s 5), none⟩,
    ⟨some 18, .mv false (.s 6), none⟩,
    ⟨some 19, .ia 3 (.s 17) (.s 18), none⟩,
    ⟨some 20, .fa 0 (.s 19), none⟩,
    ⟨some 21, .ldh false false 1 (.s 20), none⟩,
    ⟨some 22, .mv false (.s 4), none⟩,
    ⟨some 23, .mv false (.s 6), none⟩,
    ⟨some 24, .ia 3 (.s 22) (.s 23), none⟩,
    ⟨some 25, .fa 0 (.s 24), none⟩,
    ⟨some 26, .ldh false false 1 (.s 25), none⟩,
    ⟨some 27, .nilc (.s 26), none⟩,
    ⟨some 28, .ldh false false 1 (.s 27), none⟩,
    ⟨some 29, .nilc (.s 21), none⟩,
    ⟨none, .sth false 1 (.s 29) (.s 28), none⟩] [6, 17, 18, 19, 20, 21, 22, 23, 24, 25, 26, 27, 28, 29])))
  (.reg [⟨some 30, .ar .add (.s 14) (.c (.int .i64 1)), none⟩,
    ⟨some 14, .mv false (.s 30), none⟩] [30])))
def jn_record_bare_2 : TC :=
  .seq (.reg [⟨some 43, .ldh false true 10 (.s 3), none⟩,
    ⟨none, .stl true 10 2 (.s 2) (.s 43), none⟩] [])
  (.ret)
def tf_record_bare : TF := ⟨44, [.cell 2 true 10],
  .seq (.reg [⟨some 1, .hbx true (.s 0), none⟩,
    ⟨some 2, .lal [.int .i64 0, .int .i64 0, .int .i64 0, .int .i64 0, .int .i64 0, .int .i64 0, .nils, .int .i64 0, .int .i64 0, .nils], none⟩] [0, 6, 14, 15, 16, 17, 18, 19, 20, 21, 22, 23, 24, 25, 26, 27, 28, 29, 30])
  (.seq (.reg [⟨some 7, .fa 0 (.s 1), none⟩,
    ⟨some 8, .ldh false false 1 (.s 7), none⟩,
    ⟨some 9, .build [.int .i64 0, .int .i64 0, .int .i64 0, .int .i64 0, .int .i64 0, .int .i64 0, .nils, .int .i64 0, .int .i64 0, .nils] [(0, 1, (.s 8))], none⟩,
    ⟨some 3, .hal [.int .i64 0, .int .i64 0, .int .i64 0, .int .i64 0, .int .i64 0, .int .i64 0, .nils, .int .i64 0, .int .i64 0, .nils], none⟩,
    ⟨none, .sth true 10 (.s 3) (.s 9), none⟩] [7, 8, 9])
  (.seq (.reg [⟨some 10, .call 0 n_record_ofRecord [(false, (.s 1))], none⟩,
    ⟨some 11, .call 0 n_record_ofRecord [(false, (.s 3))], none⟩,
    ⟨some 4, .mv true (.s 10), none⟩,
    ⟨some 5, .mv true (.s 11), none⟩] [10, 11])
  (.seq (.seq (.reg [⟨some 12, .mv false (.s 4), none⟩,
    ⟨some 13, .len false (.s 12), none⟩,
    ⟨some 14, .mv false (.c (.int .i64 0)), none⟩] [12])
  (.block 0 (.loop lp_record_bare_1)))
  (.seq (.seq (.reg [⟨some 31, .fa 0 (.s 1), none⟩,
    ⟨some 32, .ldh false false 1 (.s 31), none⟩] [4, 5, 13, 14, 15, 31])
  (.block 2 (.seq (.reg [⟨some 34, .ar .eql (.s 32) (.c (.int .i64 1)), none⟩,
    ⟨some 33, .mv false (.s 34), none⟩] [34])
  (.cond (.s 33) (.reg [⟨some 35, .fa 9 (.s 1), none⟩,
    ⟨some 36, .ldh false false 1 (.s 35), none⟩,
    ⟨some 37, .fa 9 (.s 3), none⟩,
    ⟨none, .sth true 1 (.s 37) (.s 36), none⟩] [1, 32, 33, 35, 36, 37])
  (.seq (.reg [⟨some 39, .ar .eql (.s 32) (.c (.int .i64 3)), none⟩,
    ⟨some 38, .mv false (.s 39), none⟩] [32, 33, 39])
  (.cond (.s 38) (.reg [⟨some 40, .fa 3 (.s 1), none⟩,
    ⟨some 41, .ldh false true 4 (.s 40), none⟩,
    ⟨some 42, .fa 3 (.s 3), none⟩,
    ⟨none, .sth true 4 (.s 42) (.s 41), none⟩] [1, 38, 40, 41, 42])
  (.skip)))))))
  (jn_record_bare_2))))), true⟩
/-- bailey/baileyref11.only -/
def tf_ref11_only : TF := ⟨39, [.cell 2 true 10],
  .seq (.reg [⟨some 1, .lbx true (.s 0), none⟩,
    ⟨some 2, .lal [.int .i64 0, .int .i64 0, .int .i64 0, .int .i64 0, .int .i64 0, .int .i64 0, .nils, .int .i64 0, .int .i64 0, .nils], none⟩] [0])
  (.seq (.seq (.reg [⟨some 3, .fa 0 (.s 1), none⟩,
    ⟨some 4, .ldl false false 1 1 (.s 3), none⟩] [3])
  (.block 0 (.seq (.reg [⟨some 6, .ar .eql (.s 4) (.c (.int .i64 1)), none⟩,
    ⟨some 5, .mv false (.s 6), none⟩] [6])
  (.cond (.s 5) (.seq (.reg [⟨some 7, .fa 0 (.s 1), none⟩,
    ⟨some 8, .ldl false false 1 1 (.s 7), none⟩,
    ⟨some 9, .fa 7 (.s 1), none⟩,
    ⟨some 10, .ldl false false 1 1 (.s 9), none⟩,
    ⟨some 11, .fa 1 (.s 1), none⟩,
    ⟨some 12, .ldl false false 1 1 (.s 11), none⟩,
    ⟨some 13, .fa 8 (.s 1), none⟩,
    ⟨some 14, .ldl false false 1 1 (.s 13), none⟩,
    ⟨some 15, .fa 9 (.s 1), none⟩,
    ⟨some 16, .ldl false false 1 1 (.s 15), none⟩,
    ⟨some 17, .build [.int .i64 0, .int .i64 0, .int .i64 0, .int .i64 0, .int .i64 0, .int .i64 0, .nils, .int .i64 0, .int .i64 0, .nils] [(0, 1, (.s 8)), (7, 1, (.s 10)), (1, 1, (.s 12)), (8, 1, (.s 14)), (9, 1, (.s 16))], none⟩,
    ⟨none, .stl true 10 2 (.s 2) (.s 17), none⟩] [])
  (.ret))
  (.seq (.reg [⟨some 19, .ar .eql (.s 4) (.c (.int .i64 2)), none⟩,
    ⟨some 18, .mv false (.s 19), none⟩] [5, 19])
  (.cond (.s 18) (.seq (.reg [⟨some 20, .fa 0 (.s 1), none⟩,
    ⟨some 21, .ldl false false 1 1 (.s 20), none⟩,
    ⟨some 22, .fa 1 (.s 1), none⟩,
    ⟨some 23, .ldl false false 1 1 (.s 22), none⟩,
    ⟨some 24, .fa 2 (.s 1), none⟩,
    ⟨some 25, .ldl false false 1 1 (.s 24), none⟩,
    ⟨some 26, .build [.int .i64 0, .int .i64 0, .int .i64 0, .int .i64 0, .int .i64 0, .int .i64 0, .nils, .int .i64 0, .int .i64 0, .nils] [(0, 1, (.s 21)), (1, 1, (.s 23)), (2, 1, (.s 25))], none⟩,
    ⟨none, .stl true 10 2 (.s 2) (.s 26), none⟩] [])
  (.ret))
  (.seq (.reg [⟨some 28, .ar .eql (.s 4) (.c (.int .i64 3)), none⟩,
    ⟨some 27, .mv false (.s 28), none⟩] [4, 18, 28])
  (.cond (.s 27) (.seq (.reg [⟨some 29, .fa 0 (.s 1), none⟩,
    ⟨some 30, .ldl false false 1 1 (.s 29), none⟩,
    ⟨some 31, .fa 3 (.s 1), none⟩,
    ⟨some 32, .ldl false true 4 1 (.s 31), none⟩,
    ⟨some 33, .build [.int .i64 0, .int .i64 0, .int .i64 0, .int .i64 0, .int .i64 0, .int .i64 0, .nils, .int .i64 0, .int .i64 0, .nils] [(0, 1, (.s 30)), (3, 4, (.s 32))], none⟩,
    ⟨none, .stl true 10 2 (.s 2) (.s 33), none⟩] [])
  (.ret))
  (.skip)))))))))
  (.seq (.reg [⟨some 34, .fa 0 (.s 1), none⟩,
    ⟨some 35, .ldl false false 1 1 (.s 34), none⟩,
    ⟨some 36, .fa 7 (.s 1), none⟩,
    ⟨some 37, .ldl false false 1 1 (.s 36), none⟩,
    ⟨some 38, .build [.int .i64 0, .int .i64 0, .int .i64 0, .int .i64 0, .int .i64 0, .int .i64 0, .nils, .int .i64 0, .int .i64 0, .nils] [(0, 1, (.s 35)), (7, 1, (.s 37))], none⟩,
    ⟨none, .stl true 10 2 (.s 2) (.s 38), none⟩] [])
  (.ret))), true⟩
/-- bailey/record.last -/
def tf_record_last : TF := ⟨18, [.tmp 2],
  .seq (.reg [⟨some 1, .lbx true (.s 0), none⟩,
    ⟨some 2, .mv false (.c (.int .i64 0)), none⟩] [0, 2])
  (.seq (.seq (.reg [⟨some 4, .fa 6 (.s 1), none⟩,
    ⟨some 5, .ldl false false 1 1 (.s 4), none⟩,
    ⟨some 6, .len false (.s 5), none⟩,
    ⟨some 3, .mv false (.s 6), none⟩] [4, 5, 6])
  (.seq (.reg [⟨some 7, .mv false (.s 3), none⟩,
    ⟨some 8, .ar .gtr (.s 7) (.c (.int .i64 0)), none⟩] [7])
  (.cond (.s 8) (.seq (.reg [⟨some 9, .fa 6 (.s 1), none⟩,
    ⟨some 10, .ldl false false 1 1 (.s 9), none⟩,
    ⟨some 11, .mv false (.s 3), none⟩,
    ⟨some 12, .ar .sub (.s 11) (.c (.int .i64 1)), none⟩,
    ⟨some 13, .ia 4 (.s 10) (.s 12), none⟩,
    ⟨some 14, .fa 0 (.s 13), none⟩,
    ⟨some 15, .ldh false false 1 (.s 14), none⟩,
    ⟨some 2, .mv false (.s 15), none⟩] [])
  (.ret))
  (.skip))))
  (.seq (.reg [⟨some 16, .fa 2 (.s 1), none⟩,
    ⟨some 17, .ldl false false 1 1 (.s 16), none⟩,
    ⟨some 2, .mv false (.s 17), none⟩] [])
  (.ret))), true⟩
/-- slices.DeleteFunc[[]bailey/api.Entry,bailey/api.Entry] -/
def lp_slices_DeleteFunc_api_Entry_api_Entry_1 : TC :=
  .seq (.seq (.reg [⟨some 16, .mv false (.s 6), none⟩,
    ⟨some 17, .mv false (.s 0), none⟩,
    ⟨some 18, .len false (.s 17), none⟩,
    ⟨some 19, .ar .lss (.s 16) (.s 18), none⟩] [16, 17, 18])
  (.cond (.s 19) (.skip)
  (.exit 0)))
  (.seq (.block 1 (.seq (.reg [⟨some 22, .mv false (.s 0), none⟩,
    ⟨some 23, .mv false (.s 6), none⟩,
    ⟨some 24, .ia 4 (.s 22) (.s 23), none⟩,
    ⟨some 25, .ldh false true 4 (.s 24), none⟩,
    ⟨some 7, .lal [.int .i64 0, .int .i64 0, .int .i64 0, .nils], none⟩,
    ⟨none, .stl true 4 7 (.s 7) (.s 25), none⟩] [19, 22, 23, 24, 25])
  (.seq (.reg [⟨some 26, .mv false (.s 1), none⟩,
    ⟨some 27, .ldl false true 4 7 (.s 7), none⟩,
    ⟨some 28, .callv 0 (.s 26) [(false, (.s 27))], none⟩,
    ⟨some 29, .not (.s 28), none⟩] [26, 27, 28])
  (.cond (.s 29) (.seq (.reg [⟨some 30, .mv false (.s 0), none⟩,
    ⟨some 31, .mv false (.s 5), none⟩,
    ⟨some 32, .ldl true true 4 7 (.s 7), none⟩,
    ⟨some 33, .ia 4 (.s 30) (.s 31), none⟩,
    ⟨none, .sth true 4 (.s 33) (.s 32), none⟩] [7, 29, 30, 31, 32, 33])
  (.reg [⟨some 34, .mv false (.s 5), none⟩,
    ⟨some 35, .ar .add (.s 34) (.c (.int .i64 1)), none⟩,
    ⟨some 5, .mv false (.s 35), none⟩] [34, 35]))
  (.skip)))))
  (.reg [⟨some 20, .mv false (.s 6), none⟩,
    ⟨some 21, .ar .add (.s 20) (.c (.int .i64 1)), none⟩,
    ⟨some 6, .mv false (.s 21), none⟩] [7, 20, 21, 29]))
def tf_slices_DeleteFunc_api_Entry_api_Entry : TF := ⟨42, [.tmp 4],
  .seq (.reg [⟨some 4, .mv true (.c (.nils)), none⟩] [4, 5, 6, 7, 16, 17, 18, 19, 20, 21, 22, 23, 24, 25, 26, 27, 28, 29, 30, 31, 32, 33, 34, 35])
  (.seq (.reg [⟨some 8, .mv false (.s 0), none⟩,
    ⟨some 9, .mv false (.s 1), none⟩,
    ⟨some 10, .call 0 n_slices_IndexFunc_api_Entry_api_Entry [(false, (.s 8)), (false, (.s 9))], none⟩,
    ⟨some 5, .mv false (.s 10), none⟩] [8, 9, 10])
  (.seq (.seq (.reg [⟨some 11, .mv false (.s 5), none⟩,
    ⟨some 12, .ar .eql (.s 11) (.c (.int .i64 (-1))), none⟩] [11])
  (.cond (.s 12) (.seq (.reg [⟨some 13, .mv false (.s 0), none⟩,
    ⟨some 4, .mv true (.s 13), none⟩] [])
  (.ret))
  (.skip)))
  (.seq (.seq (.reg [⟨some 14, .mv false (.s 5), none⟩,
    ⟨some 15, .ar .add (.s 14) (.c (.int .i64 1)), none⟩,
    ⟨some 6, .mv false (.s 15), none⟩] [12, 14, 15])
  (.block 0 (.loop lp_slices_DeleteFunc_api_Entry_api_Entry_1)))
  (.seq (.reg [⟨some 36, .mv false (.s 0), none⟩,
    ⟨some 37, .mv false (.s 5), none⟩,
    ⟨some 38, .slc 4 (.s 36) (some (.s 37)) none none, none⟩,
    ⟨none, .clr [.int .i64 0, .int .i64 0, .int .i64 0, .nils] (.s 38), none⟩] [1, 6, 19, 36, 37, 38])
  (.seq (.reg [⟨some 39, .mv false (.s 0), none⟩,
    ⟨some 40, .mv false (.s 5), none⟩,
    ⟨some 41, .slc 4 (.s 39) none (some (.s 40)) none, none⟩,
    ⟨some 4, .mv true (.s 41), none⟩] [])
  (.ret)))))), true⟩
/-- (*bailey/pack.Reader).take -/
def tf_pack_Reader_take : TF := ⟨32, [.tmp 4],
  .seq (.reg [⟨some 4, .mv true (.c (.nils)), none⟩] [4])
  (.seq (.seq (.reg [⟨some 6, .mv false (.s 1), none⟩,
    ⟨some 7, .mv false (.s 0), none⟩,
    ⟨some 8, .nilc (.s 7), none⟩,
    ⟨some 9, .fa 0 (.s 8), none⟩,
    ⟨some 10, .ldh false false 1 (.s 9), none⟩,
    ⟨some 11, .len false (.s 10), none⟩,
    ⟨some 12, .ar .gtr (.s 6) (.s 11), none⟩] [6, 7, 8, 9, 10, 11])
  (.cond (.s 12) (.seq (.reg [⟨some 13, .mv false (.s 0), none⟩,
    ⟨some 14, .call 0 n_pack_Reader_Fail [(false, (.s 13)), (false, (.c (.int .i64 4)))], none⟩] [])
  (.seq (.reg [⟨some 4, .mv true (.c (.nils)), none⟩] [])
  (.ret)))
  (.skip)))
  (.seq (.reg [⟨some 15, .mv false (.s 0), none⟩,
    ⟨some 16, .nilc (.s 15), none⟩,
    ⟨some 17, .fa 0 (.s 16), none⟩,
    ⟨some 18, .ldh false false 1 (.s 17), none⟩,
    ⟨some 19, .mv false (.s 1), none⟩,
    ⟨some 20, .mv false (.s 1), none⟩,
    ⟨some 21, .slc 1 (.s 18) none (some (.s 19)) (some (.s 20)), none⟩,
    ⟨some 5, .mv true (.s 21), none⟩] [12, 15, 16, 17, 18, 19, 20, 21])
  (.seq (.reg [⟨some 22, .mv false (.s 0), none⟩,
    ⟨some 23, .mv false (.s 0), none⟩,
    ⟨some 24, .nilc (.s 23), none⟩,
    ⟨some 25, .fa 0 (.s 24), none⟩,
    ⟨some 26, .ldh false false 1 (.s 25), none⟩,
    ⟨some 27, .mv false (.s 1), none⟩,
    ⟨some 28, .slc 1 (.s 26) (some (.s 27)) none none, none⟩,
    ⟨some 29, .nilc (.s 22), none⟩,
    ⟨some 30, .fa 0 (.s 29), none⟩,
    ⟨none, .sth true 1 (.s 30) (.s 28), none⟩] [0, 1, 22, 23, 24, 25, 26, 27, 28, 29, 30])
  (.seq (.reg [⟨some 31, .mv false (.s 5), none⟩,
    ⟨some 4, .mv true (.s 31), none⟩] [])
  (.ret))))), true⟩
/-- (*bailey/pack.Reader).width -/
def jn_pack_Reader_width_1 : TC :=
  .cond (.s 15) (.seq (.reg [⟨some 28, .mv false (.s 0), none⟩,
    ⟨some 29, .call 0 n_pack_Reader_Fail [(false, (.s 28)), (false, (.c (.int .i64 3)))], none⟩] [])
  (.seq (.reg [⟨some 2, .mv false (.c (.int .i64 0)), none⟩] [])
  (.ret)))
  (.seq (.reg [⟨some 31, .mv false (.s 4), none⟩,
    ⟨some 32, .ar .lss (.s 31) (.c (.int .u8 128)), none⟩,
    ⟨some 30, .mv false (.s 32), none⟩] [4, 15, 31, 32])
  (.cond (.s 30) (.seq (.reg [⟨some 33, .mv false (.s 3), none⟩,
    ⟨some 34, .ar .add (.s 33) (.c (.int .i64 1)), none⟩,
    ⟨some 2, .mv false (.s 34), none⟩] [])
  (.ret))
  (.skip)))
def lp_pack_Reader_width_2 : TC :=
  .seq (.reg [⟨some 11, .ar .lss (.s 10) (.s 9), none⟩] [])
  (.seq (.cond (.s 11) (.skip)
  (.exit 0))
  (.seq (.block 1 (.seq (.reg [⟨some 12, .mv false (.s 10), none⟩,
    ⟨some 13, .ia 1 (.s 8) (.s 10), none⟩,
    ⟨some 14, .ldh false false 1 (.s 13), none⟩,
    ⟨some 3, .mv false (.s 12), none⟩,
    ⟨some 4, .mv false (.s 14), none⟩] [11, 12, 13, 14])
  (.block 2 (.seq (.seq (.reg [⟨some 16, .mv false (.s 3), none⟩,
    ⟨some 17, .ar .eql (.s 16) (.c (.int .i64 0)), none⟩,
    ⟨some 18, .mv false (.s 17), none⟩,
    ⟨some 19, .mv false (.s 4), (some (18, true))⟩,
    ⟨some 20, .ar .eql (.s 19) (.c (.int .u8 128)), (some (18, true))⟩,
    ⟨some 21, .pick (.s 18) (.s 20) (.c (.bool false)), none⟩,
    ⟨some 15, .mv false (.s 21), none⟩] [16, 17, 18, 19, 20, 21])
  (.cond (.s 15) (.skip)
  (.reg [⟨some 22, .mv false (.s 3), none⟩,
    ⟨some 23, .ar .eql (.s 22) (.c (.int .i64 8)), none⟩,
    ⟨some 24, .mv false (.s 23), none⟩,
    ⟨some 25, .mv false (.s 4), (some (24, true))⟩,
    ⟨some 26, .ar .geq (.s 25) (.c (.int .u8 128)), (some (24, true))⟩,
    ⟨some 27, .pick (.s 24) (.s 26) (.c (.bool false)), none⟩,
    ⟨some 15, .mv false (.s 27), none⟩] [22, 23, 24, 25, 26, 27])))
  (jn_pack_Reader_width_1)))))
  (.reg [⟨some 35, .ar .add (.s 10) (.c (.int .i64 1)), none⟩,
    ⟨some 10, .mv false (.s 35), none⟩] [3, 30, 35])))
def tf_pack_Reader_width : TF := ⟨38, [.tmp 2],
  .seq (.reg [⟨some 2, .mv false (.c (.int .i64 0)), none⟩] [2, 3, 4, 10, 11, 12, 13, 14, 15, 16, 17, 18, 19, 20, 21, 22, 23, 24, 25, 26, 27, 28, 29, 30, 31, 32, 33, 34, 35])
  (.seq (.seq (.reg [⟨some 5, .mv false (.s 0), none⟩,
    ⟨some 6, .nilc (.s 5), none⟩,
    ⟨some 7, .fa 0 (.s 6), none⟩,
    ⟨some 8, .ldh false false 1 (.s 7), none⟩,
    ⟨some 9, .len false (.s 8), none⟩,
    ⟨some 10, .mv false (.c (.int .i64 0)), none⟩] [5, 6, 7])
  (.block 0 (.loop lp_pack_Reader_width_2)))
  (.seq (.reg [⟨some 36, .mv false (.s 0), none⟩,
    ⟨some 37, .call 0 n_pack_Reader_Fail [(false, (.s 36)), (false, (.c (.int .i64 4)))], none⟩] [])
  (.seq (.reg [⟨some 2, .mv false (.c (.int .i64 0)), none⟩] [])
  (.ret)))), true⟩
/-- bailey/pack.put -/
def lp_pack_put_1 : TC :=
  .seq (.seq (.reg [⟨some 12, .mv false (.s 5), none⟩,
    ⟨some 13, .ar .gtr (.s 12) (.c (.int .i64 0)), none⟩] [12])
  (.cond (.s 13) (.skip)
  (.exit 0)))
  (.seq (.block 1 (.reg [⟨some 16, .mv true (.s 0), none⟩,
    ⟨some 17, .mv false (.s 1), none⟩,
    ⟨some 18, .mv false (.s 5), none⟩,
    ⟨some 19, .ar .shr (.s 17) (.s 18), none⟩,
    ⟨some 20, .cvi .u8 (.s 19), none⟩,
    ⟨some 21, .ar .or (.s 20) (.c (.int .u8 128)), none⟩,
    ⟨some 22, .bsl false 1 1 [.int .u8 0] [(0, (.s 21))], none⟩,
    ⟨some 23, .app true 1 1 (.s 16) (.s 22), none⟩,
    ⟨some 0, .mv true (.s 23), none⟩] [13, 16, 17, 18, 19, 20, 21, 22, 23]))
  (.reg [⟨some 14, .mv false (.s 5), none⟩,
    ⟨some 15, .ar .sub (.s 14) (.c (.int .i64 7)), none⟩,
    ⟨some 5, .mv false (.s 15), none⟩] [14, 15]))
def tf_pack_put : TF := ⟨30, [.tmp 4],
  .seq (.reg [⟨some 4, .mv true (.c (.nils)), none⟩] [4, 5, 12, 13, 14, 15, 16, 17, 18, 19, 20, 21, 22, 23])
  (.seq (.reg [⟨some 6, .mv false (.s 1), none⟩,
    ⟨some 7, .mx (.s 6) (.c (.int .i64 0)), none⟩,
    ⟨some 1, .mv false (.s 7), none⟩] [6, 7])
  (.seq (.seq (.reg [⟨some 8, .mv false (.s 1), none⟩,
    ⟨some 9, .call 0 n_pack_Size [(false, (.s 8))], none⟩,
    ⟨some 10, .ar .sub (.s 9) (.c (.int .i64 1)), none⟩,
    ⟨some 11, .ar .mul (.c (.int .i64 7)) (.s 10), none⟩,
    ⟨some 5, .mv false (.s 11), none⟩] [8, 9, 10, 11])
  (.block 0 (.loop lp_pack_put_1)))
  (.seq (.reg [⟨some 24, .mv true (.s 0), none⟩,
    ⟨some 25, .mv false (.s 1), none⟩,
    ⟨some 26, .cvi .u8 (.s 25), none⟩,
    ⟨some 27, .ar .andNot (.s 26) (.c (.int .u8 128)), none⟩,
    ⟨some 28, .bsl false 1 1 [.int .u8 0] [(0, (.s 27))], none⟩,
    ⟨some 29, .app true 1 1 (.s 24) (.s 28), none⟩,
    ⟨some 4, .mv true (.s 29), none⟩] [])
  (.ret)))), true⟩
/-- bailey/baileyref02.groups -/
def tf_ref02_groups : TF := ⟨17, [.tmp 2],
  .seq (.reg [⟨some 2, .mv true (.c (.nils)), none⟩] [2])
  (.seq (.seq (.reg [⟨some 3, .mv false (.s 0), none⟩,
    ⟨some 4, .ar .lss (.s 3) (.c (.int .i64 128)), none⟩] [3])
  (.cond (.s 4) (.seq (.reg [⟨some 5, .mv false (.s 0), none⟩,
    ⟨some 6, .mx (.s 5) (.c (.int .i64 0)), none⟩,
    ⟨some 7, .cvi .u8 (.s 6), none⟩,
    ⟨some 8, .bsr false 1 1 [.int .u8 0] [(0, (.s 7))], none⟩,
    ⟨some 2, .mv true (.s 8), none⟩] [])
  (.ret))
  (.skip)))
  (.seq (.reg [⟨some 9, .mv false (.s 0), none⟩,
    ⟨some 10, .ar .quo (.s 9) (.c (.int .i64 128)), none⟩,
    ⟨some 11, .call 0 n_ref02_groups [(false, (.s 10))], none⟩,
    ⟨some 12, .mv false (.s 0), none⟩,
    ⟨some 13, .ar .rem (.s 12) (.c (.int .i64 128)), none⟩,
    ⟨some 14, .cvi .u8 (.s 13), none⟩,
    ⟨some 15, .bsl false 1 1 [.int .u8 0] [(0, (.s 14))], none⟩,
    ⟨some 16, .apr false 1 1 (.s 11) (.s 15), none⟩,
    ⟨some 2, .mv true (.s 16), none⟩] [])
  (.ret))), false⟩
/-- slices.ContainsFunc[[]bailey/record.number,bailey/record.number] -/
def tf_slices_ContainsFunc_record_number_record_number : TF := ⟨9, [.tmp 4],
  .seq (.reg [⟨some 4, .mv false (.c (.bool false)), none⟩] [4])
  (.seq (.reg [⟨some 5, .mv true (.s 0), none⟩,
    ⟨some 6, .mv false (.s 1), none⟩,
    ⟨some 7, .call 0 n_slices_IndexFunc_record_number_record_number [(false, (.s 5)), (false, (.s 6))], none⟩,
    ⟨some 8, .ar .geq (.s 7) (.c (.int .i64 0)), none⟩,
    ⟨some 4, .mv false (.s 8), none⟩] [])
  (.ret)), true⟩
/-- bailey/record.allIn$1 -/
def tf_record_allIn_1 : TF := ⟨6, [.tmp 2],
  .seq (.reg [⟨some 1, .lbx false (.s 0), none⟩,
    ⟨some 2, .mv false (.c (.bool false)), none⟩] [0, 2])
  (.seq (.reg [⟨some 3, .ldl false true 3 1 (.s 1), none⟩,
    ⟨some 4, .call 0 n_record_number_in [(false, (.s 3))], none⟩,
    ⟨some 5, .not (.s 4), none⟩,
    ⟨some 2, .mv false (.s 5), none⟩] [])
  (.ret)), true⟩
/-- (bailey/record.number).in -/
def tf_record_number_in : TF := ⟨19, [.tmp 2],
  .seq (.reg [⟨some 1, .lbx false (.s 0), none⟩,
    ⟨some 2, .mv false (.c (.bool false)), none⟩] [0, 2])
  (.seq (.reg [⟨some 3, .fa 1 (.s 1), none⟩,
    ⟨some 4, .ldl false false 1 1 (.s 3), none⟩,
    ⟨some 5, .fa 0 (.s 1), none⟩,
    ⟨some 6, .ldl false false 1 1 (.s 5), none⟩,
    ⟨some 7, .nilc (.s 6), none⟩,
    ⟨some 8, .ldh false false 1 (.s 7), none⟩,
    ⟨some 9, .ar .leq (.s 4) (.s 8), none⟩,
    ⟨some 10, .mv false (.s 9), none⟩,
    ⟨some 11, .fa 0 (.s 1), (some (10, true))⟩,
    ⟨some 12, .ldl false false 1 1 (.s 11), (some (10, true))⟩,
    ⟨some 13, .nilc (.s 12), (some (10, true))⟩,
    ⟨some 14, .ldh false false 1 (.s 13), (some (10, true))⟩,
    ⟨some 15, .fa 2 (.s 1), (some (10, true))⟩,
    ⟨some 16, .ldl false false 1 1 (.s 15), (some (10, true))⟩,
    ⟨some 17, .ar .leq (.s 14) (.s 16), (some (10, true))⟩,
    ⟨some 18, .pick (.s 10) (.s 17) (.c (.bool false)), none⟩,
    ⟨some 2, .mv false (.s 18), none⟩] [])
  (.ret)), true⟩
/-- slices.IndexFunc[[]bailey/api.Entry,bailey/api.Entry] -/
def lp_slices_IndexFunc_api_Entry_api_Entry_1 : TC :=
  .seq (.reg [⟨some 9, .ar .lss (.s 8) (.s 7), none⟩] [])
  (.seq (.cond (.s 9) (.skip)
  (.exit 0))
  (.seq (.block 1 (.seq (.reg [⟨some 10, .mv false (.s 8), none⟩,
    ⟨some 5, .mv false (.s 10), none⟩] [9, 10])
  (.seq (.reg [⟨some 11, .mv false (.s 1), none⟩,
    ⟨some 12, .mv false (.s 0), none⟩,
    ⟨some 13, .mv false (.s 5), none⟩,
    ⟨some 14, .ia 4 (.s 12) (.s 13), none⟩,
    ⟨some 15, .ldh false true 4 (.s 14), none⟩,
    ⟨some 16, .callv 0 (.s 11) [(false, (.s 15))], none⟩] [11, 12, 13, 14, 15])
  (.cond (.s 16) (.seq (.reg [⟨some 17, .mv false (.s 5), none⟩,
    ⟨some 4, .mv false (.s 17), none⟩] [])
  (.ret))
  (.skip)))))
  (.reg [⟨some 18, .ar .add (.s 8) (.c (.int .i64 1)), none⟩,
    ⟨some 8, .mv false (.s 18), none⟩] [5, 16, 18])))
def tf_slices_IndexFunc_api_Entry_api_Entry : TF := ⟨19, [.tmp 4],
  .seq (.reg [⟨some 4, .mv false (.c (.int .i64 0)), none⟩] [4, 5, 8, 9, 10, 11, 12, 13, 14, 15, 16, 17, 18])
  (.seq (.seq (.reg [⟨some 6, .mv false (.s 0), none⟩,
    ⟨some 7, .len false (.s 6), none⟩,
    ⟨some 8, .mv false (.c (.int .i64 0)), none⟩] [6])
  (.block 0 (.loop lp_slices_IndexFunc_api_Entry_api_Entry_1)))
  (.seq (.reg [⟨some 4, .mv false (.c (.int .i64 (-1))), none⟩] [])
  (.ret))), true⟩
/-- bailey/pack.Size -/
def lp_pack_Size_1 : TC :=
  .seq (.seq (.reg [⟨some 4, .mv false (.s 0), none⟩,
    ⟨some 5, .ar .geq (.s 4) (.c (.int .i64 128)), none⟩] [4])
  (.cond (.s 5) (.skip)
  (.exit 0)))
  (.block 1 (.seq (.reg [⟨some 6, .mv false (.s 0), none⟩,
    ⟨some 7, .ar .shr (.s 6) (.c (.int .u64 7)), none⟩,
    ⟨some 0, .mv false (.s 7), none⟩] [5, 6, 7])
  (.reg [⟨some 8, .mv false (.s 3), none⟩,
    ⟨some 9, .ar .add (.s 8) (.c (.int .i64 1)), none⟩,
    ⟨some 3, .mv false (.s 9), none⟩] [8, 9])))
def tf_pack_Size : TF := ⟨11, [.tmp 2],
  .seq (.reg [⟨some 2, .mv false (.c (.int .i64 0)), none⟩] [2, 3, 4, 5, 6, 7, 8, 9])
  (.seq (.reg [⟨some 3, .mv false (.c (.int .i64 1)), none⟩] [])
  (.seq (.block 0 (.loop lp_pack_Size_1))
  (.seq (.reg [⟨some 10, .mv false (.s 3), none⟩,
    ⟨some 2, .mv false (.s 10), none⟩] [])
  (.ret)))), true⟩
/-- slices.IndexFunc[[]bailey/record.number,bailey/record.number] -/
def lp_slices_IndexFunc_record_number_record_number_1 : TC :=
  .seq (.reg [⟨some 9, .ar .lss (.s 8) (.s 7), none⟩] [])
  (.seq (.cond (.s 9) (.skip)
  (.exit 0))
  (.seq (.block 1 (.seq (.reg [⟨some 10, .mv false (.s 8), none⟩,
    ⟨some 5, .mv false (.s 10), none⟩] [9, 10])
  (.seq (.reg [⟨some 11, .mv false (.s 1), none⟩,
    ⟨some 12, .mv false (.s 0), none⟩,
    ⟨some 13, .mv false (.s 5), none⟩,
    ⟨some 14, .ia 3 (.s 12) (.s 13), none⟩,
    ⟨some 15, .ldh false true 3 (.s 14), none⟩,
    ⟨some 16, .callv 0 (.s 11) [(false, (.s 15))], none⟩] [11, 12, 13, 14, 15])
  (.cond (.s 16) (.seq (.reg [⟨some 17, .mv false (.s 5), none⟩,
    ⟨some 4, .mv false (.s 17), none⟩] [])
  (.ret))
  (.skip)))))
  (.reg [⟨some 18, .ar .add (.s 8) (.c (.int .i64 1)), none⟩,
    ⟨some 8, .mv false (.s 18), none⟩] [5, 16, 18])))
def tf_slices_IndexFunc_record_number_record_number : TF := ⟨19, [.tmp 4],
  .seq (.reg [⟨some 4, .mv false (.c (.int .i64 0)), none⟩] [4, 5, 8, 9, 10, 11, 12, 13, 14, 15, 16, 17, 18])
  (.seq (.seq (.reg [⟨some 6, .mv false (.s 0), none⟩,
    ⟨some 7, .len false (.s 6), none⟩,
    ⟨some 8, .mv false (.c (.int .i64 0)), none⟩] [6])
  (.block 0 (.loop lp_slices_IndexFunc_record_number_record_number_1)))
  (.seq (.reg [⟨some 4, .mv false (.c (.int .i64 (-1))), none⟩] [])
  (.ret))), true⟩
theorem ok_law11_RecordRises : chkF Go.Proofs.Try.prog n_law11_RecordRises tf_law11_RecordRises = true := by kernel_rfl
theorem ok_law13_RlogConf : chkF Go.Proofs.Try.prog n_law13_RlogConf tf_law13_RlogConf = true := by kernel_rfl
theorem ok_law11_RecordApplies : chkF Go.Proofs.Try.prog n_law11_RecordApplies tf_law11_RecordApplies = true := by kernel_rfl
theorem ok_law11_RecordEntries : chkF Go.Proofs.Try.prog n_law11_RecordEntries tf_law11_RecordEntries = true := by kernel_rfl
theorem ok_law11_RecordCodes : chkF Go.Proofs.Try.prog n_law11_RecordCodes tf_law11_RecordCodes = true := by kernel_rfl
theorem ok_law11_RecordBack : chkF Go.Proofs.Try.prog n_law11_RecordBack tf_law11_RecordBack = true := by kernel_rfl
theorem ok_law11_few : chkF Go.Proofs.Try.prog n_law11_few tf_law11_few = true := by kernel_rfl
theorem ok_record_Apply : chkF Go.Proofs.Try.prog n_record_Apply tf_record_Apply = true := by kernel_rfl
theorem ok_law11_awake : chkF Go.Proofs.Try.prog n_law11_awake tf_law11_awake = true := by kernel_rfl
theorem ok_law13_awake : chkF Go.Proofs.Try.prog n_law13_awake tf_law13_awake = true := by kernel_rfl
theorem ok_rlog_ConfOf : chkF Go.Proofs.Try.prog n_rlog_ConfOf tf_rlog_ConfOf = true := by kernel_rfl
theorem ok_rlog_ConfData : chkF Go.Proofs.Try.prog n_rlog_ConfData tf_rlog_ConfData = true := by kernel_rfl
theorem ok_slices_Equal_byte_byte : chkF Go.Proofs.Try.prog n_slices_Equal_byte_byte tf_slices_Equal_byte_byte = true := by kernel_rfl
theorem ok_ref13_ConfData : chkF Go.Proofs.Try.prog n_ref13_ConfData tf_ref13_ConfData = true := by kernel_rfl
theorem ok_ref13_ConfOf : chkF Go.Proofs.Try.prog n_ref13_ConfOf tf_ref13_ConfOf = true := by kernel_rfl
theorem ok_law11_fewSaved : chkF Go.Proofs.Try.prog n_law11_fewSaved tf_law11_fewSaved = true := by kernel_rfl
theorem ok_ref11_Apply : chkF Go.Proofs.Try.prog n_ref11_Apply tf_ref11_Apply = true := by kernel_rfl
theorem ok_ref11_SameSaved : chkF Go.Proofs.Try.prog n_ref11_SameSaved tf_ref11_SameSaved = true := by kernel_rfl
theorem ok_record_SameSaved : chkF Go.Proofs.Try.prog n_record_SameSaved tf_record_SameSaved = true := by kernel_rfl
theorem ok_slices_EqualFunc_api_Entry_api_Entry_api_Entry_api_Entry : chkF Go.Proofs.Try.prog n_slices_EqualFunc_api_Entry_api_Entry_api_Entry_api_Entry tf_slices_EqualFunc_api_Entry_api_Entry_api_Entry_api_Entry = true := by kernel_rfl
theorem ok_law11_RecordApplies_1 : chkF Go.Proofs.Try.prog n_law11_RecordApplies_1 tf_law11_RecordApplies_1 = true := by kernel_rfl
theorem ok_ref11_SameEntry : chkF Go.Proofs.Try.prog n_ref11_SameEntry tf_ref11_SameEntry = true := by kernel_rfl
theorem ok_pack_Open : chkF Go.Proofs.Try.prog n_pack_Open tf_pack_Open = true := by kernel_rfl
theorem ok_ref02_Open : chkF Go.Proofs.Try.prog n_ref02_Open tf_ref02_Open = true := by kernel_rfl
theorem ok_record_ReadEntry : chkF Go.Proofs.Try.prog n_record_ReadEntry tf_record_ReadEntry = true := by kernel_rfl
theorem ok_ref11_ReadEntry : chkF Go.Proofs.Try.prog n_ref11_ReadEntry tf_ref11_ReadEntry = true := by kernel_rfl
theorem ok_record_Entry : chkF Go.Proofs.Try.prog n_record_Entry tf_record_Entry = true := by kernel_rfl
theorem ok_ref11_Entry : chkF Go.Proofs.Try.prog n_ref11_Entry tf_ref11_Entry = true := by kernel_rfl
theorem ok_record_SameEntry : chkF Go.Proofs.Try.prog n_record_SameEntry tf_record_SameEntry = true := by kernel_rfl
theorem ok_record_PutEntry : chkF Go.Proofs.Try.prog n_record_PutEntry tf_record_PutEntry = true := by kernel_rfl
theorem ok_ref11_PutEntry : chkF Go.Proofs.Try.prog n_ref11_PutEntry tf_ref11_PutEntry = true := by kernel_rfl
theorem ok_pack_Reader_Err : chkF Go.Proofs.Try.prog n_pack_Reader_Err tf_pack_Reader_Err = true := by kernel_rfl
theorem ok_ref02_Reader_Err : chkF Go.Proofs.Try.prog n_ref02_Reader_Err tf_ref02_Reader_Err = true := by kernel_rfl
theorem ok_pack_Reader_Left : chkF Go.Proofs.Try.prog n_pack_Reader_Left tf_pack_Reader_Left = true := by kernel_rfl
theorem ok_ref02_Reader_Left : chkF Go.Proofs.Try.prog n_ref02_Reader_Left tf_ref02_Reader_Left = true := by kernel_rfl
theorem ok_rlog_Log_Term : chkF Go.Proofs.Try.prog n_rlog_Log_Term tf_rlog_Log_Term = true := by kernel_rfl
theorem ok_rlog_Log_Append : chkF Go.Proofs.Try.prog n_rlog_Log_Append tf_rlog_Log_Append = true := by kernel_rfl
theorem ok_rlog_Log_Cut : chkF Go.Proofs.Try.prog n_rlog_Log_Cut tf_rlog_Log_Cut = true := by kernel_rfl
theorem ok_rlog_Log_Last : chkF Go.Proofs.Try.prog n_rlog_Log_Last tf_rlog_Log_Last = true := by kernel_rfl
theorem ok_rlog_Log_LastTerm : chkF Go.Proofs.Try.prog n_rlog_Log_LastTerm tf_rlog_Log_LastTerm = true := by kernel_rfl
theorem ok_record_Encode : chkF Go.Proofs.Try.prog n_record_Encode tf_record_Encode = true := by kernel_rfl
theorem ok_ref11_Encode : chkF Go.Proofs.Try.prog n_ref11_Encode tf_ref11_Encode = true := by kernel_rfl
theorem ok_record_Check : chkF Go.Proofs.Try.prog n_record_Check tf_record_Check = true := by kernel_rfl
theorem ok_ref11_Check : chkF Go.Proofs.Try.prog n_ref11_Check tf_ref11_Check = true := by kernel_rfl
theorem ok_record_Same : chkF Go.Proofs.Try.prog n_record_Same tf_record_Same = true := by kernel_rfl
theorem ok_ref11_Same : chkF Go.Proofs.Try.prog n_ref11_Same tf_ref11_Same = true := by kernel_rfl
theorem ok_record_Decode : chkF Go.Proofs.Try.prog n_record_Decode tf_record_Decode = true := by kernel_rfl
theorem ok_ref11_Decode : chkF Go.Proofs.Try.prog n_ref11_Decode tf_ref11_Decode = true := by kernel_rfl
theorem ok_rlog_New : chkF Go.Proofs.Try.prog n_rlog_New tf_rlog_New = true := by kernel_rfl
theorem ok_record_fits : chkF Go.Proofs.Try.prog n_record_fits tf_record_fits = true := by kernel_rfl
theorem ok_record_without : chkF Go.Proofs.Try.prog n_record_without tf_record_without = true := by kernel_rfl
theorem ok_record_Apply_1 : chkF Go.Proofs.Try.prog n_record_Apply_1 tf_record_Apply_1 = true := by kernel_rfl
theorem ok_record_Apply_2 : chkF Go.Proofs.Try.prog n_record_Apply_2 tf_record_Apply_2 = true := by kernel_rfl
theorem ok_pack_Reader_Num : chkF Go.Proofs.Try.prog n_pack_Reader_Num tf_pack_Reader_Num = true := by kernel_rfl
theorem ok_pack_Reader_End : chkF Go.Proofs.Try.prog n_pack_Reader_End tf_pack_Reader_End = true := by kernel_rfl
theorem ok_pack_Num : chkF Go.Proofs.Try.prog n_pack_Num tf_pack_Num = true := by kernel_rfl
theorem ok_ref02_Num : chkF Go.Proofs.Try.prog n_ref02_Num tf_ref02_Num = true := by kernel_rfl
theorem ok_ref02_Reader_Num : chkF Go.Proofs.Try.prog n_ref02_Reader_Num tf_ref02_Reader_Num = true := by kernel_rfl
theorem ok_ref02_Reader_End : chkF Go.Proofs.Try.prog n_ref02_Reader_End tf_ref02_Reader_End = true := by kernel_rfl
theorem ok_ref11_last : chkF Go.Proofs.Try.prog n_ref11_last tf_ref11_last = true := by kernel_rfl
theorem ok_pack_room : chkF Go.Proofs.Try.prog n_pack_room tf_pack_room = true := by kernel_rfl
theorem ok_ref02_copied : chkF Go.Proofs.Try.prog n_ref02_copied tf_ref02_copied = true := by kernel_rfl
theorem ok_record_take : chkF Go.Proofs.Try.prog n_record_take tf_record_take = true := by kernel_rfl
theorem ok_record_ofEntry : chkF Go.Proofs.Try.prog n_record_ofEntry tf_record_ofEntry = true := by kernel_rfl
theorem ok_pack_Reader_Text : chkF Go.Proofs.Try.prog n_pack_Reader_Text tf_pack_Reader_Text = true := by kernel_rfl
theorem ok_pack_Reader_Fail : chkF Go.Proofs.Try.prog n_pack_Reader_Fail tf_pack_Reader_Fail = true := by kernel_rfl
theorem ok_ref02_Reader_Text : chkF Go.Proofs.Try.prog n_ref02_Reader_Text tf_ref02_Reader_Text = true := by kernel_rfl
theorem ok_ref02_Reader_Fail : chkF Go.Proofs.Try.prog n_ref02_Reader_Fail tf_ref02_Reader_Fail = true := by kernel_rfl
theorem ok_record_allIn : chkF Go.Proofs.Try.prog n_record_allIn tf_record_allIn = true := by kernel_rfl
theorem ok_ref11_in : chkF Go.Proofs.Try.prog n_ref11_in tf_ref11_in = true := by kernel_rfl
theorem ok_pack_Text : chkF Go.Proofs.Try.prog n_pack_Text tf_pack_Text = true := by kernel_rfl
theorem ok_record_put : chkF Go.Proofs.Try.prog n_record_put tf_record_put = true := by kernel_rfl
theorem ok_ref02_Text : chkF Go.Proofs.Try.prog n_ref02_Text tf_ref02_Text = true := by kernel_rfl
theorem ok_pack_Reader_works : chkF Go.Proofs.Try.prog n_pack_Reader_works tf_pack_Reader_works = true := by kernel_rfl
theorem ok_rlog_Log_there : chkF Go.Proofs.Try.prog n_rlog_Log_there tf_rlog_Log_there = true := by kernel_rfl
theorem ok_rlog_Log_place : chkF Go.Proofs.Try.prog n_rlog_Log_place tf_rlog_Log_place = true := by kernel_rfl
theorem ok_rlog_own : chkF Go.Proofs.Try.prog n_rlog_own tf_rlog_own = true := by kernel_rfl
theorem ok_slices_Clip_api_Entry_api_Entry : chkF Go.Proofs.Try.prog n_slices_Clip_api_Entry_api_Entry tf_slices_Clip_api_Entry_api_Entry = true := by kernel_rfl
theorem ok_record_ofRecord : chkF Go.Proofs.Try.prog n_record_ofRecord tf_record_ofRecord = true := by kernel_rfl
theorem ok_record_bare : chkF Go.Proofs.Try.prog n_record_bare tf_record_bare = true := by kernel_rfl
theorem ok_ref11_only : chkF Go.Proofs.Try.prog n_ref11_only tf_ref11_only = true := by kernel_rfl
theorem ok_record_last : chkF Go.Proofs.Try.prog n_record_last tf_record_last = true := by kernel_rfl
theorem ok_slices_DeleteFunc_api_Entry_api_Entry : chkF Go.Proofs.Try.prog n_slices_DeleteFunc_api_Entry_api_Entry tf_slices_DeleteFunc_api_Entry_api_Entry = true := by kernel_rfl
theorem ok_pack_Reader_take : chkF Go.Proofs.Try.prog n_pack_Reader_take tf_pack_Reader_take = true := by kernel_rfl
theorem ok_pack_Reader_width : chkF Go.Proofs.Try.prog n_pack_Reader_width tf_pack_Reader_width = true := by kernel_rfl
theorem ok_pack_put : chkF Go.Proofs.Try.prog n_pack_put tf_pack_put = true := by kernel_rfl
theorem ok_ref02_groups : chkF Go.Proofs.Try.prog n_ref02_groups tf_ref02_groups = true := by kernel_rfl
theorem ok_slices_ContainsFunc_record_number_record_number : chkF Go.Proofs.Try.prog n_slices_ContainsFunc_record_number_record_number tf_slices_ContainsFunc_record_number_record_number = true := by kernel_rfl
theorem ok_record_allIn_1 : chkF Go.Proofs.Try.prog n_record_allIn_1 tf_record_allIn_1 = true := by kernel_rfl
theorem ok_record_number_in : chkF Go.Proofs.Try.prog n_record_number_in tf_record_number_in = true := by kernel_rfl
theorem ok_slices_IndexFunc_api_Entry_api_Entry : chkF Go.Proofs.Try.prog n_slices_IndexFunc_api_Entry_api_Entry tf_slices_IndexFunc_api_Entry_api_Entry = true := by kernel_rfl
theorem ok_pack_Size : chkF Go.Proofs.Try.prog n_pack_Size tf_pack_Size = true := by kernel_rfl
theorem ok_slices_IndexFunc_record_number_record_number : chkF Go.Proofs.Try.prog n_slices_IndexFunc_record_number_record_number tf_slices_IndexFunc_record_number_record_number = true := by kernel_rfl
def tab : Nat → Option TF := fun f => match f with
  | 3 => some tf_law11_RecordRises
  | 4 => some tf_law13_RlogConf
  | 5 => some tf_law11_RecordApplies
  | 6 => some tf_law11_RecordEntries
  | 8 => some tf_law11_RecordCodes
  | 9 => some tf_law11_RecordBack
  | 12 => some tf_law11_few
  | 13 => some tf_record_Apply
  | 14 => some tf_law11_awake
  | 15 => some tf_law13_awake
  | 16 => some tf_rlog_ConfOf
  | 17 => some tf_rlog_ConfData
  | 18 => some tf_slices_Equal_byte_byte
  | 19 => some tf_ref13_ConfData
  | 20 => some tf_ref13_ConfOf
  | 21 => some tf_law11_fewSaved
  | 23 => some tf_ref11_Apply
  | 24 => some tf_ref11_SameSaved
  | 25 => some tf_record_SameSaved
  | 26 => some tf_slices_EqualFunc_api_Entry_api_Entry_api_Entry_api_Entry
  | 27 => some tf_law11_RecordApplies_1
  | 28 => some tf_ref11_SameEntry
  | 29 => some tf_pack_Open
  | 30 => some tf_ref02_Open
  | 31 => some tf_record_ReadEntry
  | 32 => some tf_ref11_ReadEntry
  | 33 => some tf_record_Entry
  | 34 => some tf_ref11_Entry
  | 35 => some tf_record_SameEntry
  | 36 => some tf_record_PutEntry
  | 37 => some tf_ref11_PutEntry
  | 38 => some tf_pack_Reader_Err
  | 39 => some tf_ref02_Reader_Err
  | 40 => some tf_pack_Reader_Left
  | 41 => some tf_ref02_Reader_Left
  | 43 => some tf_rlog_Log_Term
  | 44 => some tf_rlog_Log_Append
  | 45 => some tf_rlog_Log_Cut
  | 48 => some tf_rlog_Log_Last
  | 49 => some tf_rlog_Log_LastTerm
  | 53 => some tf_record_Encode
  | 54 => some tf_ref11_Encode
  | 55 => some tf_record_Check
  | 56 => some tf_ref11_Check
  | 57 => some tf_record_Same
  | 58 => some tf_ref11_Same
  | 59 => some tf_record_Decode
  | 60 => some tf_ref11_Decode
  | 63 => some tf_rlog_New
  | 73 => some tf_record_fits
  | 74 => some tf_record_without
  | 75 => some tf_record_Apply_1
  | 76 => some tf_record_Apply_2
  | 77 => some tf_pack_Reader_Num
  | 78 => some tf_pack_Reader_End
  | 79 => some tf_pack_Num
  | 80 => some tf_ref02_Num
  | 81 => some tf_ref02_Reader_Num
  | 82 => some tf_ref02_Reader_End
  | 83 => some tf_ref11_last
  | 84 => some tf_pack_room
  | 85 => some tf_ref02_copied
  | 86 => some tf_record_take
  | 87 => some tf_record_ofEntry
  | 88 => some tf_pack_Reader_Text
  | 89 => some tf_pack_Reader_Fail
  | 90 => some tf_ref02_Reader_Text
  | 91 => some tf_ref02_Reader_Fail
  | 92 => some tf_record_allIn
  | 93 => some tf_ref11_in
  | 94 => some tf_pack_Text
  | 95 => some tf_record_put
  | 96 => some tf_ref02_Text
  | 97 => some tf_pack_Reader_works
  | 98 => some tf_rlog_Log_there
  | 99 => some tf_rlog_Log_place
  | 100 => some tf_rlog_own
  | 101 => some tf_slices_Clip_api_Entry_api_Entry
  | 103 => some tf_record_ofRecord
  | 104 => some tf_record_bare
  | 105 => some tf_ref11_only
  | 113 => some tf_record_last
  | 114 => some tf_slices_DeleteFunc_api_Entry_api_Entry
  | 115 => some tf_pack_Reader_take
  | 116 => some tf_pack_Reader_width
  | 117 => some tf_pack_put
  | 118 => some tf_ref02_groups
  | 119 => some tf_slices_ContainsFunc_record_number_record_number
  | 120 => some tf_record_allIn_1
  | 121 => some tf_record_number_in
  | 123 => some tf_slices_IndexFunc_api_Entry_api_Entry
  | 124 => some tf_pack_Size
  | 125 => some tf_slices_IndexFunc_record_number_record_number
  | _ => none
theorem tabOk : TabSound Go.Proofs.Try.prog tab := by
  intro f tf h
  unfold tab at h
  split at h
  · obtain rfl := Option.some.inj h; exact ok_law11_RecordRises
  · obtain rfl := Option.some.inj h; exact ok_law13_RlogConf
  · obtain rfl := Option.some.inj h; exact ok_law11_RecordApplies
  · obtain rfl := Option.some.inj h; exact ok_law11_RecordEntries
  · obtain rfl := Option.some.inj h; exact ok_law11_RecordCodes
  · obtain rfl := Option.some.inj h; exact ok_law11_RecordBack
  · obtain rfl := Option.some.inj h; exact ok_law11_few
  · obtain rfl := Option.some.inj h; exact ok_record_Apply
  · obtain rfl := Option.some.inj h; exact ok_law11_awake
  · obtain rfl := Option.some.inj h; exact ok_law13_awake
  · obtain rfl := Option.some.inj h; exact ok_rlog_ConfOf
  · obtain rfl := Option.some.inj h; exact ok_rlog_ConfData
  · obtain rfl := Option.some.inj h; exact ok_slices_Equal_byte_byte
  · obtain rfl := Option.some.inj h; exact ok_ref13_ConfData
  · obtain rfl := Option.some.inj h; exact ok_ref13_ConfOf
  · obtain rfl := Option.some.inj h; exact ok_law11_fewSaved
  · obtain rfl := Option.some.inj h; exact ok_ref11_Apply
  · obtain rfl := Option.some.inj h; exact ok_ref11_SameSaved
  · obtain rfl := Option.some.inj h; exact ok_record_SameSaved
  · obtain rfl := Option.some.inj h; exact ok_slices_EqualFunc_api_Entry_api_Entry_api_Entry_api_Entry
  · obtain rfl := Option.some.inj h; exact ok_law11_RecordApplies_1
  · obtain rfl := Option.some.inj h; exact ok_ref11_SameEntry
  · obtain rfl := Option.some.inj h; exact ok_pack_Open
  · obtain rfl := Option.some.inj h; exact ok_ref02_Open
  · obtain rfl := Option.some.inj h; exact ok_record_ReadEntry
  · obtain rfl := Option.some.inj h; exact ok_ref11_ReadEntry
  · obtain rfl := Option.some.inj h; exact ok_record_Entry
  · obtain rfl := Option.some.inj h; exact ok_ref11_Entry
  · obtain rfl := Option.some.inj h; exact ok_record_SameEntry
  · obtain rfl := Option.some.inj h; exact ok_record_PutEntry
  · obtain rfl := Option.some.inj h; exact ok_ref11_PutEntry
  · obtain rfl := Option.some.inj h; exact ok_pack_Reader_Err
  · obtain rfl := Option.some.inj h; exact ok_ref02_Reader_Err
  · obtain rfl := Option.some.inj h; exact ok_pack_Reader_Left
  · obtain rfl := Option.some.inj h; exact ok_ref02_Reader_Left
  · obtain rfl := Option.some.inj h; exact ok_rlog_Log_Term
  · obtain rfl := Option.some.inj h; exact ok_rlog_Log_Append
  · obtain rfl := Option.some.inj h; exact ok_rlog_Log_Cut
  · obtain rfl := Option.some.inj h; exact ok_rlog_Log_Last
  · obtain rfl := Option.some.inj h; exact ok_rlog_Log_LastTerm
  · obtain rfl := Option.some.inj h; exact ok_record_Encode
  · obtain rfl := Option.some.inj h; exact ok_ref11_Encode
  · obtain rfl := Option.some.inj h; exact ok_record_Check
  · obtain rfl := Option.some.inj h; exact ok_ref11_Check
  · obtain rfl := Option.some.inj h; exact ok_record_Same
  · obtain rfl := Option.some.inj h; exact ok_ref11_Same
  · obtain rfl := Option.some.inj h; exact ok_record_Decode
  · obtain rfl := Option.some.inj h; exact ok_ref11_Decode
  · obtain rfl := Option.some.inj h; exact ok_rlog_New
  · obtain rfl := Option.some.inj h; exact ok_record_fits
  · obtain rfl := Option.some.inj h; exact ok_record_without
  · obtain rfl := Option.some.inj h; exact ok_record_Apply_1
  · obtain rfl := Option.some.inj h; exact ok_record_Apply_2
  · obtain rfl := Option.some.inj h; exact ok_pack_Reader_Num
  · obtain rfl := Option.some.inj h; exact ok_pack_Reader_End
  · obtain rfl := Option.some.inj h; exact ok_pack_Num
  · obtain rfl := Option.some.inj h; exact ok_ref02_Num
  · obtain rfl := Option.some.inj h; exact ok_ref02_Reader_Num
  · obtain rfl := Option.some.inj h; exact ok_ref02_Reader_End
  · obtain rfl := Option.some.inj h; exact ok_ref11_last
  · obtain rfl := Option.some.inj h; exact ok_pack_room
  · obtain rfl := Option.some.inj h; exact ok_ref02_copied
  · obtain rfl := Option.some.inj h; exact ok_record_take
  · obtain rfl := Option.some.inj h; exact ok_record_ofEntry
  · obtain rfl := Option.some.inj h; exact ok_pack_Reader_Text
  · obtain rfl := Option.some.inj h; exact ok_pack_Reader_Fail
  · obtain rfl := Option.some.inj h; exact ok_ref02_Reader_Text
  · obtain rfl := Option.some.inj h; exact ok_ref02_Reader_Fail
  · obtain rfl := Option.some.inj h; exact ok_record_allIn
  · obtain rfl := Option.some.inj h; exact ok_ref11_in
  · obtain rfl := Option.some.inj h; exact ok_pack_Text
  · obtain rfl := Option.some.inj h; exact ok_record_put
  · obtain rfl := Option.some.inj h; exact ok_ref02_Text
  · obtain rfl := Option.some.inj h; exact ok_pack_Reader_works
  · obtain rfl := Option.some.inj h; exact ok_rlog_Log_there
  · obtain rfl := Option.some.inj h; exact ok_rlog_Log_place
  · obtain rfl := Option.some.inj h; exact ok_rlog_own
  · obtain rfl := Option.some.inj h; exact ok_slices_Clip_api_Entry_api_Entry
  · obtain rfl := Option.some.inj h; exact ok_record_ofRecord
  · obtain rfl := Option.some.inj h; exact ok_record_bare
  · obtain rfl := Option.some.inj h; exact ok_ref11_only
  · obtain rfl := Option.some.inj h; exact ok_record_last
  · obtain rfl := Option.some.inj h; exact ok_slices_DeleteFunc_api_Entry_api_Entry
  · obtain rfl := Option.some.inj h; exact ok_pack_Reader_take
  · obtain rfl := Option.some.inj h; exact ok_pack_Reader_width
  · obtain rfl := Option.some.inj h; exact ok_pack_put
  · obtain rfl := Option.some.inj h; exact ok_ref02_groups
  · obtain rfl := Option.some.inj h; exact ok_slices_ContainsFunc_record_number_record_number
  · obtain rfl := Option.some.inj h; exact ok_record_allIn_1
  · obtain rfl := Option.some.inj h; exact ok_record_number_in
  · obtain rfl := Option.some.inj h; exact ok_slices_IndexFunc_api_Entry_api_Entry
  · obtain rfl := Option.some.inj h; exact ok_pack_Size
  · obtain rfl := Option.some.inj h; exact ok_slices_IndexFunc_record_number_record_number
  · cases h
theorem tab_law11_RecordRises : tab n_law11_RecordRises = some tf_law11_RecordRises := rfl
theorem tab_law13_RlogConf : tab n_law13_RlogConf = some tf_law13_RlogConf := rfl
theorem tab_law11_RecordApplies : tab n_law11_RecordApplies = some tf_law11_RecordApplies := rfl
theorem tab_law11_RecordEntries : tab n_law11_RecordEntries = some tf_law11_RecordEntries := rfl
theorem tab_law11_RecordCodes : tab n_law11_RecordCodes = some tf_law11_RecordCodes := rfl
theorem tab_law11_RecordBack : tab n_law11_RecordBack = some tf_law11_RecordBack := rfl
theorem tab_law11_few : tab n_law11_few = some tf_law11_few := rfl
theorem tab_record_Apply : tab n_record_Apply = some tf_record_Apply := rfl
theorem tab_law11_awake : tab n_law11_awake = some tf_law11_awake := rfl
theorem tab_law13_awake : tab n_law13_awake = some tf_law13_awake := rfl
theorem tab_rlog_ConfOf : tab n_rlog_ConfOf = some tf_rlog_ConfOf := rfl
theorem tab_rlog_ConfData : tab n_rlog_ConfData = some tf_rlog_ConfData := rfl
theorem tab_slices_Equal_byte_byte : tab n_slices_Equal_byte_byte = some tf_slices_Equal_byte_byte := rfl
theorem tab_ref13_ConfData : tab n_ref13_ConfData = some tf_ref13_ConfData := rfl
theorem tab_ref13_ConfOf : tab n_ref13_ConfOf = some tf_ref13_ConfOf := rfl
theorem tab_law11_fewSaved : tab n_law11_fewSaved = some tf_law11_fewSaved := rfl
theorem tab_ref11_Apply : tab n_ref11_Apply = some tf_ref11_Apply := rfl
theorem tab_ref11_SameSaved : tab n_ref11_SameSaved = some tf_ref11_SameSaved := rfl
theorem tab_record_SameSaved : tab n_record_SameSaved = some tf_record_SameSaved := rfl
theorem tab_slices_EqualFunc_api_Entry_api_Entry_api_Entry_api_Entry : tab n_slices_EqualFunc_api_Entry_api_Entry_api_Entry_api_Entry = some tf_slices_EqualFunc_api_Entry_api_Entry_api_Entry_api_Entry := rfl
theorem tab_law11_RecordApplies_1 : tab n_law11_RecordApplies_1 = some tf_law11_RecordApplies_1 := rfl
theorem tab_ref11_SameEntry : tab n_ref11_SameEntry = some tf_ref11_SameEntry := rfl
theorem tab_pack_Open : tab n_pack_Open = some tf_pack_Open := rfl
theorem tab_ref02_Open : tab n_ref02_Open = some tf_ref02_Open := rfl
theorem tab_record_ReadEntry : tab n_record_ReadEntry = some tf_record_ReadEntry := rfl
theorem tab_ref11_ReadEntry : tab n_ref11_ReadEntry = some tf_ref11_ReadEntry := rfl
theorem tab_record_Entry : tab n_record_Entry = some tf_record_Entry := rfl
theorem tab_ref11_Entry : tab n_ref11_Entry = some tf_ref11_Entry := rfl
theorem tab_record_SameEntry : tab n_record_SameEntry = some tf_record_SameEntry := rfl
theorem tab_record_PutEntry : tab n_record_PutEntry = some tf_record_PutEntry := rfl
theorem tab_ref11_PutEntry : tab n_ref11_PutEntry = some tf_ref11_PutEntry := rfl
theorem tab_pack_Reader_Err : tab n_pack_Reader_Err = some tf_pack_Reader_Err := rfl
theorem tab_ref02_Reader_Err : tab n_ref02_Reader_Err = some tf_ref02_Reader_Err := rfl
theorem tab_pack_Reader_Left : tab n_pack_Reader_Left = some tf_pack_Reader_Left := rfl
theorem tab_ref02_Reader_Left : tab n_ref02_Reader_Left = some tf_ref02_Reader_Left := rfl
theorem tab_rlog_Log_Term : tab n_rlog_Log_Term = some tf_rlog_Log_Term := rfl
theorem tab_rlog_Log_Append : tab n_rlog_Log_Append = some tf_rlog_Log_Append := rfl
theorem tab_rlog_Log_Cut : tab n_rlog_Log_Cut = some tf_rlog_Log_Cut := rfl
theorem tab_rlog_Log_Last : tab n_rlog_Log_Last = some tf_rlog_Log_Last := rfl
theorem tab_rlog_Log_LastTerm : tab n_rlog_Log_LastTerm = some tf_rlog_Log_LastTerm := rfl
theorem tab_record_Encode : tab n_record_Encode = some tf_record_Encode := rfl
theorem tab_ref11_Encode : tab n_ref11_Encode = some tf_ref11_Encode := rfl
theorem tab_record_Check : tab n_record_Check = some tf_record_Check := rfl
theorem tab_ref11_Check : tab n_ref11_Check = some tf_ref11_Check := rfl
theorem tab_record_Same : tab n_record_Same = some tf_record_Same := rfl
theorem tab_ref11_Same : tab n_ref11_Same = some tf_ref11_Same := rfl
theorem tab_record_Decode : tab n_record_Decode = some tf_record_Decode := rfl
theorem tab_ref11_Decode : tab n_ref11_Decode = some tf_ref11_Decode := rfl
theorem tab_rlog_New : tab n_rlog_New = some tf_rlog_New := rfl
theorem tab_record_fits : tab n_record_fits = some tf_record_fits := rfl
theorem tab_record_without : tab n_record_without = some tf_record_without := rfl
theorem tab_record_Apply_1 : tab n_record_Apply_1 = some tf_record_Apply_1 := rfl
theorem tab_record_Apply_2 : tab n_record_Apply_2 = some tf_record_Apply_2 := rfl
theorem tab_pack_Reader_Num : tab n_pack_Reader_Num = some tf_pack_Reader_Num := rfl
theorem tab_pack_Reader_End : tab n_pack_Reader_End = some tf_pack_Reader_End := rfl
theorem tab_pack_Num : tab n_pack_Num = some tf_pack_Num := rfl
theorem tab_ref02_Num : tab n_ref02_Num = some tf_ref02_Num := rfl
theorem tab_ref02_Reader_Num : tab n_ref02_Reader_Num = some tf_ref02_Reader_Num := rfl
theorem tab_ref02_Reader_End : tab n_ref02_Reader_End = some tf_ref02_Reader_End := rfl
theorem tab_ref11_last : tab n_ref11_last = some tf_ref11_last := rfl
theorem tab_pack_room : tab n_pack_room = some tf_pack_room := rfl
theorem tab_ref02_copied : tab n_ref02_copied = some tf_ref02_copied := rfl
theorem tab_record_take : tab n_record_take = some tf_record_take := rfl
theorem tab_record_ofEntry : tab n_record_ofEntry = some tf_record_ofEntry := rfl
theorem tab_pack_Reader_Text : tab n_pack_Reader_Text = some tf_pack_Reader_Text := rfl
theorem tab_pack_Reader_Fail : tab n_pack_Reader_Fail = some tf_pack_Reader_Fail := rfl
theorem tab_ref02_Reader_Text : tab n_ref02_Reader_Text = some tf_ref02_Reader_Text := rfl
theorem tab_ref02_Reader_Fail : tab n_ref02_Reader_Fail = some tf_ref02_Reader_Fail := rfl
theorem tab_record_allIn : tab n_record_allIn = some tf_record_allIn := rfl
theorem tab_ref11_in : tab n_ref11_in = some tf_ref11_in := rfl
theorem tab_pack_Text : tab n_pack_Text = some tf_pack_Text := rfl
theorem tab_record_put : tab n_record_put = some tf_record_put := rfl
theorem tab_ref02_Text : tab n_ref02_Text = some tf_ref02_Text := rfl
theorem tab_pack_Reader_works : tab n_pack_Reader_works = some tf_pack_Reader_works := rfl
theorem tab_rlog_Log_there : tab n_rlog_Log_there = some tf_rlog_Log_there := rfl
theorem tab_rlog_Log_place : tab n_rlog_Log_place = some tf_rlog_Log_place := rfl
theorem tab_rlog_own : tab n_rlog_own = some tf_rlog_own := rfl
theorem tab_slices_Clip_api_Entry_api_Entry : tab n_slices_Clip_api_Entry_api_Entry = some tf_slices_Clip_api_Entry_api_Entry := rfl
theorem tab_record_ofRecord : tab n_record_ofRecord = some tf_record_ofRecord := rfl
theorem tab_record_bare : tab n_record_bare = some tf_record_bare := rfl
theorem tab_ref11_only : tab n_ref11_only = some tf_ref11_only := rfl
theorem tab_record_last : tab n_record_last = some tf_record_last := rfl
theorem tab_slices_DeleteFunc_api_Entry_api_Entry : tab n_slices_DeleteFunc_api_Entry_api_Entry = some tf_slices_DeleteFunc_api_Entry_api_Entry := rfl
theorem tab_pack_Reader_take : tab n_pack_Reader_take = some tf_pack_Reader_take := rfl
theorem tab_pack_Reader_width : tab n_pack_Reader_width = some tf_pack_Reader_width := rfl
theorem tab_pack_put : tab n_pack_put = some tf_pack_put := rfl
theorem tab_ref02_groups : tab n_ref02_groups = some tf_ref02_groups := rfl
theorem tab_slices_ContainsFunc_record_number_record_number : tab n_slices_ContainsFunc_record_number_record_number = some tf_slices_ContainsFunc_record_number_record_number := rfl
theorem tab_record_allIn_1 : tab n_record_allIn_1 = some tf_record_allIn_1 := rfl
theorem tab_record_number_in : tab n_record_number_in = some tf_record_number_in := rfl
theorem tab_slices_IndexFunc_api_Entry_api_Entry : tab n_slices_IndexFunc_api_Entry_api_Entry = some tf_slices_IndexFunc_api_Entry_api_Entry := rfl
theorem tab_pack_Size : tab n_pack_Size = some tf_pack_Size := rfl
theorem tab_slices_IndexFunc_record_number_record_number : tab n_slices_IndexFunc_record_number_record_number = some tf_slices_IndexFunc_record_number_record_number := rfl
def ext : Nat → Option CallF := fun f => match f with
  | 22 => some (cloneC true 4 48)
  | 67 => some (cloneC false 1 1)
  | _ => none
theorem one_slices_Clone_api_Entry_api_Entry : ExtOne Go.Proofs.Try.prog n_slices_Clone_api_Entry_api_Entry (cloneC true 4 48) := ExtOne.clone (by kernel_rfl)
theorem one_slices_Clone_byte_byte : ExtOne Go.Proofs.Try.prog n_slices_Clone_byte_byte (cloneC false 1 1) := ExtOne.clone (by kernel_rfl)
theorem ext_ord : ExtOrd ext := by
  intro f c h
  unfold ext at h
  split at h
  · obtain rfl := Option.some.inj h; exact one_slices_Clone_api_Entry_api_Entry.ord
  · obtain rfl := Option.some.inj h; exact one_slices_Clone_byte_byte.ord
  · cases h
theorem ext_snd : ExtSound Go.Proofs.Try.prog ext := by
  intro f c h
  unfold ext at h
  split at h
  · obtain rfl := Option.some.inj h; exact one_slices_Clone_api_Entry_api_Entry.snd
  · obtain rfl := Option.some.inj h; exact one_slices_Clone_byte_byte.snd
  · cases h
/-- What the program's functions answer. -/
noncomputable abbrev CT : CallF := callT tab ext
end Go.T
