/- The table of functions, held against the loaded program. Written by a program of this part. -/
import Derived.Test.YtnbfkndicldppaaA0
import Derived.Test.YtnbfkndicldppaaA1
import Derived.Test.YtnbfkndicldppaaA2
import Derived.Test.YtnbfkndicldppaaA3
import Derived.Test.YtnbfkndicldppaaA4
import Derived.Test.YtnbfkndicldppaaA5
import Derived.Test.YtnbfkndicldppaaA6
import Derived.Test.YtnbfkndicldppaaA7
import Derived.Test.YtnbfkndicldppaaProg
namespace Go.Proofs.Ytnbfkndicldppaa.Core
open Go
set_option linter.unusedVariables false
set_option maxRecDepth 100000

def table : List (Nat × AFn) := [(3, a_laws_FnCouncilNew), (4, a_laws_FnVoices), (17, a_laws_FnExactOneServes), (18, a_laws_FnExactAlike), (21, a_laws_big), (22, a_spec_DrawCouncilNew), (23, a_impl_CouncilNew), (24, a_spec_CouncilNew), (25, a_impl_OneChosen), (26, a_spec_DrawNotes), (27, a_impl_HearNote), (28, a_spec_HearNote), (29, a_impl_VoiceOk), (30, a_laws_szCallS), (32, a_laws_toCallS), (34, a_laws_eqCallS), (38, a_laws_szMsg), (40, a_laws_toMsg), (42, a_laws_eqMsg), (49, a_laws_szMember), (51, a_laws_toMember), (53, a_laws_eqMember), (56, a_laws_szIntSS), (58, a_laws_toIntSS), (60, a_laws_eqIntSS), (69, a_laws_szItemS), (70, a_laws_szItem), (71, a_laws_toItemS), (72, a_laws_toItem), (73, a_laws_eqItemS), (88, a_laws_szGroup), (89, a_spec_OneServes), (90, a_laws_toGroup), (91, a_impl_OneServes), (92, a_laws_eqGroup), (93, a_spec_Alike), (94, a_impl_Alike), (103, a_spec_l01New), (104, a_spec_l01Place), (105, a_impl_inRange), (106, a_spec_l01In), (107, a_spec_l01Below), (108, a_spec_l11Note), (109, a_spec_VoiceOk), (110, a_laws_szCall), (113, a_laws_toCall), (117, a_laws_eqCall), (118, a_spec_l01Byte), (140, a_laws_szIntS), (141, a_laws_szTask), (142, a_laws_toIntS), (143, a_laws_toTask), (144, a_laws_eqIntS), (145, a_laws_eqTask), (151, a_spec_l10In), (154, a_slices_Contains_int_int), (162, a_laws_eqItem), (188, a_laws_szMemberS), (189, a_laws_szMsgS), (190, a_laws_toMemberS), (191, a_laws_toMsgS), (192, a_impl_Group_view), (193, a_laws_eqMemberS), (194, a_laws_eqMsgS), (195, a_spec_l16SameItems), (196, a_slices_Equal_impl_Item_impl_Item), (208, a_spec_l01Once), (209, a_spec_l01PickInt), (210, a_spec_l11Value), (211, a_spec_l01Long), (226, a_slices_Index_int_int), (229, a_spec_l01Pick)]
def fns (f : Nat) : Option AFn := look f table
def prims : Cal := fun _ _ _ => none
theorem b_laws_FnCouncilNew : afnB Try.prog 3 a_laws_FnCouncilNew = true := by kernel_rfl
theorem b_laws_FnVoices : afnB Try.prog 4 a_laws_FnVoices = true := by kernel_rfl
theorem b_laws_FnExactOneServes : afnB Try.prog 17 a_laws_FnExactOneServes = true := by kernel_rfl
theorem b_laws_FnExactAlike : afnB Try.prog 18 a_laws_FnExactAlike = true := by kernel_rfl
theorem b_laws_big : afnB Try.prog 21 a_laws_big = true := by kernel_rfl
theorem b_spec_DrawCouncilNew : afnB Try.prog 22 a_spec_DrawCouncilNew = true := by kernel_rfl
theorem b_impl_CouncilNew : afnB Try.prog 23 a_impl_CouncilNew = true := by kernel_rfl
theorem b_spec_CouncilNew : afnB Try.prog 24 a_spec_CouncilNew = true := by kernel_rfl
theorem b_impl_OneChosen : afnB Try.prog 25 a_impl_OneChosen = true := by kernel_rfl
theorem b_spec_DrawNotes : afnB Try.prog 26 a_spec_DrawNotes = true := by kernel_rfl
theorem b_impl_HearNote : afnB Try.prog 27 a_impl_HearNote = true := by kernel_rfl
theorem b_spec_HearNote : afnB Try.prog 28 a_spec_HearNote = true := by kernel_rfl
theorem b_impl_VoiceOk : afnB Try.prog 29 a_impl_VoiceOk = true := by kernel_rfl
theorem b_laws_szCallS : afnB Try.prog 30 a_laws_szCallS = true := by kernel_rfl
theorem b_laws_toCallS : afnB Try.prog 32 a_laws_toCallS = true := by kernel_rfl
theorem b_laws_eqCallS : afnB Try.prog 34 a_laws_eqCallS = true := by kernel_rfl
theorem b_laws_szMsg : afnB Try.prog 38 a_laws_szMsg = true := by kernel_rfl
theorem b_laws_toMsg : afnB Try.prog 40 a_laws_toMsg = true := by kernel_rfl
theorem b_laws_eqMsg : afnB Try.prog 42 a_laws_eqMsg = true := by kernel_rfl
theorem b_laws_szMember : afnB Try.prog 49 a_laws_szMember = true := by kernel_rfl
theorem b_laws_toMember : afnB Try.prog 51 a_laws_toMember = true := by kernel_rfl
theorem b_laws_eqMember : afnB Try.prog 53 a_laws_eqMember = true := by kernel_rfl
theorem b_laws_szIntSS : afnB Try.prog 56 a_laws_szIntSS = true := by kernel_rfl
theorem b_laws_toIntSS : afnB Try.prog 58 a_laws_toIntSS = true := by kernel_rfl
theorem b_laws_eqIntSS : afnB Try.prog 60 a_laws_eqIntSS = true := by kernel_rfl
theorem b_laws_szItemS : afnB Try.prog 69 a_laws_szItemS = true := by kernel_rfl
theorem b_laws_szItem : afnB Try.prog 70 a_laws_szItem = true := by kernel_rfl
theorem b_laws_toItemS : afnB Try.prog 71 a_laws_toItemS = true := by kernel_rfl
theorem b_laws_toItem : afnB Try.prog 72 a_laws_toItem = true := by kernel_rfl
theorem b_laws_eqItemS : afnB Try.prog 73 a_laws_eqItemS = true := by kernel_rfl
theorem b_laws_szGroup : afnB Try.prog 88 a_laws_szGroup = true := by kernel_rfl
theorem b_spec_OneServes : afnB Try.prog 89 a_spec_OneServes = true := by kernel_rfl
theorem b_laws_toGroup : afnB Try.prog 90 a_laws_toGroup = true := by kernel_rfl
theorem b_impl_OneServes : afnB Try.prog 91 a_impl_OneServes = true := by kernel_rfl
theorem b_laws_eqGroup : afnB Try.prog 92 a_laws_eqGroup = true := by kernel_rfl
theorem b_spec_Alike : afnB Try.prog 93 a_spec_Alike = true := by kernel_rfl
theorem b_impl_Alike : afnB Try.prog 94 a_impl_Alike = true := by kernel_rfl
theorem b_spec_l01New : afnB Try.prog 103 a_spec_l01New = true := by kernel_rfl
theorem b_spec_l01Place : afnB Try.prog 104 a_spec_l01Place = true := by kernel_rfl
theorem b_impl_inRange : afnB Try.prog 105 a_impl_inRange = true := by kernel_rfl
theorem b_spec_l01In : afnB Try.prog 106 a_spec_l01In = true := by kernel_rfl
theorem b_spec_l01Below : afnB Try.prog 107 a_spec_l01Below = true := by kernel_rfl
theorem b_spec_l11Note : afnB Try.prog 108 a_spec_l11Note = true := by kernel_rfl
theorem b_spec_VoiceOk : afnB Try.prog 109 a_spec_VoiceOk = true := by kernel_rfl
theorem b_laws_szCall : afnB Try.prog 110 a_laws_szCall = true := by kernel_rfl
theorem b_laws_toCall : afnB Try.prog 113 a_laws_toCall = true := by kernel_rfl
theorem b_laws_eqCall : afnB Try.prog 117 a_laws_eqCall = true := by kernel_rfl
theorem b_spec_l01Byte : afnB Try.prog 118 a_spec_l01Byte = true := by kernel_rfl
theorem b_laws_szIntS : afnB Try.prog 140 a_laws_szIntS = true := by kernel_rfl
theorem b_laws_szTask : afnB Try.prog 141 a_laws_szTask = true := by kernel_rfl
theorem b_laws_toIntS : afnB Try.prog 142 a_laws_toIntS = true := by kernel_rfl
theorem b_laws_toTask : afnB Try.prog 143 a_laws_toTask = true := by kernel_rfl
theorem b_laws_eqIntS : afnB Try.prog 144 a_laws_eqIntS = true := by kernel_rfl
theorem b_laws_eqTask : afnB Try.prog 145 a_laws_eqTask = true := by kernel_rfl
theorem b_spec_l10In : afnB Try.prog 151 a_spec_l10In = true := by kernel_rfl
theorem b_slices_Contains_int_int : afnB Try.prog 154 a_slices_Contains_int_int = true := by kernel_rfl
theorem b_laws_eqItem : afnB Try.prog 162 a_laws_eqItem = true := by kernel_rfl
theorem b_laws_szMemberS : afnB Try.prog 188 a_laws_szMemberS = true := by kernel_rfl
theorem b_laws_szMsgS : afnB Try.prog 189 a_laws_szMsgS = true := by kernel_rfl
theorem b_laws_toMemberS : afnB Try.prog 190 a_laws_toMemberS = true := by kernel_rfl
theorem b_laws_toMsgS : afnB Try.prog 191 a_laws_toMsgS = true := by kernel_rfl
theorem b_impl_Group_view : afnB Try.prog 192 a_impl_Group_view = true := by kernel_rfl
theorem b_laws_eqMemberS : afnB Try.prog 193 a_laws_eqMemberS = true := by kernel_rfl
theorem b_laws_eqMsgS : afnB Try.prog 194 a_laws_eqMsgS = true := by kernel_rfl
theorem b_spec_l16SameItems : afnB Try.prog 195 a_spec_l16SameItems = true := by kernel_rfl
theorem b_slices_Equal_impl_Item_impl_Item : afnB Try.prog 196 a_slices_Equal_impl_Item_impl_Item = true := by kernel_rfl
theorem b_spec_l01Once : afnB Try.prog 208 a_spec_l01Once = true := by kernel_rfl
theorem b_spec_l01PickInt : afnB Try.prog 209 a_spec_l01PickInt = true := by kernel_rfl
theorem b_spec_l11Value : afnB Try.prog 210 a_spec_l11Value = true := by kernel_rfl
theorem b_spec_l01Long : afnB Try.prog 211 a_spec_l01Long = true := by kernel_rfl
theorem b_slices_Index_int_int : afnB Try.prog 226 a_slices_Index_int_int = true := by kernel_rfl
theorem b_spec_l01Pick : afnB Try.prog 229 a_spec_l01Pick = true := by kernel_rfl
theorem tied : Tied Try.prog fns := look_tied (.cons b_laws_FnCouncilNew <| .cons b_laws_FnVoices <| .cons b_laws_FnExactOneServes <| .cons b_laws_FnExactAlike <| .cons b_laws_big <| .cons b_spec_DrawCouncilNew <| .cons b_impl_CouncilNew <| .cons b_spec_CouncilNew <| .cons b_impl_OneChosen <| .cons b_spec_DrawNotes <| .cons b_impl_HearNote <| .cons b_spec_HearNote <| .cons b_impl_VoiceOk <| .cons b_laws_szCallS <| .cons b_laws_toCallS <| .cons b_laws_eqCallS <| .cons b_laws_szMsg <| .cons b_laws_toMsg <| .cons b_laws_eqMsg <| .cons b_laws_szMember <| .cons b_laws_toMember <| .cons b_laws_eqMember <| .cons b_laws_szIntSS <| .cons b_laws_toIntSS <| .cons b_laws_eqIntSS <| .cons b_laws_szItemS <| .cons b_laws_szItem <| .cons b_laws_toItemS <| .cons b_laws_toItem <| .cons b_laws_eqItemS <| .cons b_laws_szGroup <| .cons b_spec_OneServes <| .cons b_laws_toGroup <| .cons b_impl_OneServes <| .cons b_laws_eqGroup <| .cons b_spec_Alike <| .cons b_impl_Alike <| .cons b_spec_l01New <| .cons b_spec_l01Place <| .cons b_impl_inRange <| .cons b_spec_l01In <| .cons b_spec_l01Below <| .cons b_spec_l11Note <| .cons b_spec_VoiceOk <| .cons b_laws_szCall <| .cons b_laws_toCall <| .cons b_laws_eqCall <| .cons b_spec_l01Byte <| .cons b_laws_szIntS <| .cons b_laws_szTask <| .cons b_laws_toIntS <| .cons b_laws_toTask <| .cons b_laws_eqIntS <| .cons b_laws_eqTask <| .cons b_spec_l10In <| .cons b_slices_Contains_int_int <| .cons b_laws_eqItem <| .cons b_laws_szMemberS <| .cons b_laws_szMsgS <| .cons b_laws_toMemberS <| .cons b_laws_toMsgS <| .cons b_impl_Group_view <| .cons b_laws_eqMemberS <| .cons b_laws_eqMsgS <| .cons b_spec_l16SameItems <| .cons b_slices_Equal_impl_Item_impl_Item <| .cons b_spec_l01Once <| .cons b_spec_l01PickInt <| .cons b_spec_l11Value <| .cons b_spec_l01Long <| .cons b_slices_Index_int_int <| .cons b_spec_l01Pick .nil)
theorem primsOk : CallOk Try.prog prims := fun _ _ _ _ h => by cases h

noncomputable def F_laws_FnCouncilNew (x0 : List Int) : Option Bool := (calL fns prims 3 [.lst (.int .u8) x0] []).bind (decAll [.bool])
noncomputable def F_laws_FnVoices (x0 : List Int) : Option Bool := (calL fns prims 4 [.lst (.int .u8) x0] []).bind (decAll [.bool])
noncomputable def F_laws_FnExactOneServes (x0 : y_Group) : Option Bool := (calL fns prims 17 [.agg [.lst (.slice (.int .i64)) x0.1, .lst k_Member x0.2.1, .lst k_Msg x0.2.2.1, .lst k_Call x0.2.2.2]] []).bind (decAll [.bool])
noncomputable def F_laws_FnExactAlike (x0 : y_Group) : Option Bool := (calL fns prims 18 [.agg [.lst (.slice (.int .i64)) x0.1, .lst k_Member x0.2.1, .lst k_Msg x0.2.2.1, .lst k_Call x0.2.2.2]] []).bind (decAll [.bool])
noncomputable def F_laws_big (x0 : List Int) : Option Bool := (calL fns prims 21 [.lst (.int .u8) x0] []).bind (decAll [.bool])
noncomputable def F_spec_DrawCouncilNew (x0 : List Int) : Option (Int × Int) := (calL fns prims 22 [.lst (.int .u8) x0] []).bind (decAll [(.int .i64), (.int .i64)])
noncomputable def F_impl_CouncilNew (x0 : Int) (x1 : Int) : Option (y_Council_own × Bool) := (calL fns prims 23 [.int .i64 x0, .int .i64 x1] []).bind (decAll [k_Council_own, .bool])
noncomputable def F_spec_CouncilNew (x0 : Int) (x1 : Int) : Option (y_Council_own × Bool) := (calL fns prims 24 [.int .i64 x0, .int .i64 x1] []).bind (decAll [k_Council, .bool])
noncomputable def F_impl_OneChosen (x0 : y_Council_own) : Option Bool := (calL fns prims 25 [.agg [.lst k_Voice x0.1, .lst k_Try x0.2.1, .lst k_Note x0.2.2.1, .lst .str x0.2.2.2]] []).bind (decAll [.bool])
noncomputable def F_spec_DrawNotes (x0 : List Int) : Option (List y_Note) := (calL fns prims 26 [.lst (.int .u8) x0] []).bind (decAll [(.slice k_Note)])
noncomputable def F_impl_HearNote (x0 : y_Voice) (x1 : y_Note) : Option (y_Voice × y_Note × Bool) := (calL fns prims 27 [.agg [.int .i64 x0.1, .int .i64 x0.2.1, .str x0.2.2], .agg [.int .i64 x1.1, .int .i64 x1.2.1, .int .i64 x1.2.2.1, .int .i64 x1.2.2.2.1, .int .i64 x1.2.2.2.2.1, .str x1.2.2.2.2.2]] []).bind (decAll [k_Voice, k_Note, .bool])
noncomputable def F_spec_HearNote (x0 : y_Voice) (x1 : y_Note) : Option (y_Voice × y_Note × Bool) := (calL fns prims 28 [.agg [.int .i64 x0.1, .int .i64 x0.2.1, .str x0.2.2], .agg [.int .i64 x1.1, .int .i64 x1.2.1, .int .i64 x1.2.2.1, .int .i64 x1.2.2.2.1, .int .i64 x1.2.2.2.2.1, .str x1.2.2.2.2.2]] []).bind (decAll [k_Voice, k_Note, .bool])
noncomputable def F_impl_VoiceOk (x0 : y_Voice) : Option Bool := (calL fns prims 29 [.agg [.int .i64 x0.1, .int .i64 x0.2.1, .str x0.2.2]] []).bind (decAll [.bool])
noncomputable def F_laws_szCallS (x0 : List y_Call) (x1 : Int) : Option Int := (calL fns prims 30 [.lst k_Call x0, .int .i64 x1] []).bind (decAll [(.int .i64)])
noncomputable def F_laws_toCallS (x0 : List y_Call) : Option (List y_Call) := (calL fns prims 32 [.lst k_Call x0] []).bind (decAll [(.slice k_Call)])
noncomputable def F_laws_eqCallS (x0 : List y_Call) (x1 : List y_Call) : Option Bool := (calL fns prims 34 [.lst k_Call x0, .lst k_Call x1] []).bind (decAll [.bool])
noncomputable def F_laws_szMsg (x0 : y_Msg) (x1 : Int) : Option Int := (calL fns prims 38 [.agg [.int .i64 x0.1, .int .i64 x0.2.1, .int .i64 x0.2.2.1, .int .i64 x0.2.2.2.1, .int .i64 x0.2.2.2.2.1, .lst k_Item x0.2.2.2.2.2], .int .i64 x1] []).bind (decAll [(.int .i64)])
noncomputable def F_laws_toMsg (x0 : y_Msg) : Option y_Msg := (calL fns prims 40 [.agg [.int .i64 x0.1, .int .i64 x0.2.1, .int .i64 x0.2.2.1, .int .i64 x0.2.2.2.1, .int .i64 x0.2.2.2.2.1, .lst k_Item x0.2.2.2.2.2]] []).bind (decAll [k_Msg])
noncomputable def F_laws_eqMsg (x0 : y_Msg) (x1 : y_Msg) : Option Bool := (calL fns prims 42 [.agg [.int .i64 x0.1, .int .i64 x0.2.1, .int .i64 x0.2.2.1, .int .i64 x0.2.2.2.1, .int .i64 x0.2.2.2.2.1, .lst k_Item x0.2.2.2.2.2], .agg [.int .i64 x1.1, .int .i64 x1.2.1, .int .i64 x1.2.2.1, .int .i64 x1.2.2.2.1, .int .i64 x1.2.2.2.2.1, .lst k_Item x1.2.2.2.2.2]] []).bind (decAll [.bool])
noncomputable def F_laws_szMember (x0 : y_Member) (x1 : Int) : Option Int := (calL fns prims 49 [.agg [.int .i64 x0.1, .int .i64 x0.2.1, .bool x0.2.2.1, .bool x0.2.2.2.1, .bool x0.2.2.2.2.1, .bool x0.2.2.2.2.2.1, .lst (.int .i64) x0.2.2.2.2.2.2.1, .lst k_Item x0.2.2.2.2.2.2.2.1, .int .i64 x0.2.2.2.2.2.2.2.2.1, .int .i64 x0.2.2.2.2.2.2.2.2.2.1, .int .i64 x0.2.2.2.2.2.2.2.2.2.2.1, .int .i64 x0.2.2.2.2.2.2.2.2.2.2.2.1, .str x0.2.2.2.2.2.2.2.2.2.2.2.2.1.1, .str x0.2.2.2.2.2.2.2.2.2.2.2.2.1.2.1, .int .i64 x0.2.2.2.2.2.2.2.2.2.2.2.2.1.2.2, .lst (.int .i64) x0.2.2.2.2.2.2.2.2.2.2.2.2.2], .int .i64 x1] []).bind (decAll [(.int .i64)])
noncomputable def F_laws_toMember (x0 : y_Member) : Option y_Member := (calL fns prims 51 [.agg [.int .i64 x0.1, .int .i64 x0.2.1, .bool x0.2.2.1, .bool x0.2.2.2.1, .bool x0.2.2.2.2.1, .bool x0.2.2.2.2.2.1, .lst (.int .i64) x0.2.2.2.2.2.2.1, .lst k_Item x0.2.2.2.2.2.2.2.1, .int .i64 x0.2.2.2.2.2.2.2.2.1, .int .i64 x0.2.2.2.2.2.2.2.2.2.1, .int .i64 x0.2.2.2.2.2.2.2.2.2.2.1, .int .i64 x0.2.2.2.2.2.2.2.2.2.2.2.1, .str x0.2.2.2.2.2.2.2.2.2.2.2.2.1.1, .str x0.2.2.2.2.2.2.2.2.2.2.2.2.1.2.1, .int .i64 x0.2.2.2.2.2.2.2.2.2.2.2.2.1.2.2, .lst (.int .i64) x0.2.2.2.2.2.2.2.2.2.2.2.2.2]] []).bind (decAll [k_Member])
noncomputable def F_laws_eqMember (x0 : y_Member) (x1 : y_Member) : Option Bool := (calL fns prims 53 [.agg [.int .i64 x0.1, .int .i64 x0.2.1, .bool x0.2.2.1, .bool x0.2.2.2.1, .bool x0.2.2.2.2.1, .bool x0.2.2.2.2.2.1, .lst (.int .i64) x0.2.2.2.2.2.2.1, .lst k_Item x0.2.2.2.2.2.2.2.1, .int .i64 x0.2.2.2.2.2.2.2.2.1, .int .i64 x0.2.2.2.2.2.2.2.2.2.1, .int .i64 x0.2.2.2.2.2.2.2.2.2.2.1, .int .i64 x0.2.2.2.2.2.2.2.2.2.2.2.1, .str x0.2.2.2.2.2.2.2.2.2.2.2.2.1.1, .str x0.2.2.2.2.2.2.2.2.2.2.2.2.1.2.1, .int .i64 x0.2.2.2.2.2.2.2.2.2.2.2.2.1.2.2, .lst (.int .i64) x0.2.2.2.2.2.2.2.2.2.2.2.2.2], .agg [.int .i64 x1.1, .int .i64 x1.2.1, .bool x1.2.2.1, .bool x1.2.2.2.1, .bool x1.2.2.2.2.1, .bool x1.2.2.2.2.2.1, .lst (.int .i64) x1.2.2.2.2.2.2.1, .lst k_Item x1.2.2.2.2.2.2.2.1, .int .i64 x1.2.2.2.2.2.2.2.2.1, .int .i64 x1.2.2.2.2.2.2.2.2.2.1, .int .i64 x1.2.2.2.2.2.2.2.2.2.2.1, .int .i64 x1.2.2.2.2.2.2.2.2.2.2.2.1, .str x1.2.2.2.2.2.2.2.2.2.2.2.2.1.1, .str x1.2.2.2.2.2.2.2.2.2.2.2.2.1.2.1, .int .i64 x1.2.2.2.2.2.2.2.2.2.2.2.2.1.2.2, .lst (.int .i64) x1.2.2.2.2.2.2.2.2.2.2.2.2.2]] []).bind (decAll [.bool])
noncomputable def F_laws_szIntSS (x0 : List (List Int)) (x1 : Int) : Option Int := (calL fns prims 56 [.lst (.slice (.int .i64)) x0, .int .i64 x1] []).bind (decAll [(.int .i64)])
noncomputable def F_laws_toIntSS (x0 : List (List Int)) : Option (List (List Int)) := (calL fns prims 58 [.lst (.slice (.int .i64)) x0] []).bind (decAll [(.slice (.slice (.int .i64)))])
noncomputable def F_laws_eqIntSS (x0 : List (List Int)) (x1 : List (List Int)) : Option Bool := (calL fns prims 60 [.lst (.slice (.int .i64)) x0, .lst (.slice (.int .i64)) x1] []).bind (decAll [.bool])
noncomputable def F_laws_szItemS (x0 : List y_Item) (x1 : Int) : Option Int := (calL fns prims 69 [.lst k_Item x0, .int .i64 x1] []).bind (decAll [(.int .i64)])
noncomputable def F_laws_szItem (x0 : y_Item) (x1 : Int) : Option Int := (calL fns prims 70 [.agg [.str x0.1, .str x0.2.1, .int .i64 x0.2.2], .int .i64 x1] []).bind (decAll [(.int .i64)])
noncomputable def F_laws_toItemS (x0 : List y_Item) : Option (List y_Item) := (calL fns prims 71 [.lst k_Item x0] []).bind (decAll [(.slice k_Item)])
noncomputable def F_laws_toItem (x0 : y_Item) : Option y_Item := (calL fns prims 72 [.agg [.str x0.1, .str x0.2.1, .int .i64 x0.2.2]] []).bind (decAll [k_Item])
noncomputable def F_laws_eqItemS (x0 : List y_Item) (x1 : List y_Item) : Option Bool := (calL fns prims 73 [.lst k_Item x0, .lst k_Item x1] []).bind (decAll [.bool])
noncomputable def F_laws_szGroup (x0 : y_Group) (x1 : Int) : Option Int := (calL fns prims 88 [.agg [.lst (.slice (.int .i64)) x0.1, .lst k_Member x0.2.1, .lst k_Msg x0.2.2.1, .lst k_Call x0.2.2.2], .int .i64 x1] []).bind (decAll [(.int .i64)])
noncomputable def F_spec_OneServes (x0 : y_Group) : Option Bool := (calL fns prims 89 [.agg [.lst (.slice (.int .i64)) x0.1, .lst k_Member x0.2.1, .lst k_Msg x0.2.2.1, .lst k_Call x0.2.2.2]] []).bind (decAll [.bool])
noncomputable def F_laws_toGroup (x0 : y_Group) : Option y_Group := (calL fns prims 90 [.agg [.lst (.slice (.int .i64)) x0.1, .lst k_Member x0.2.1, .lst k_Msg x0.2.2.1, .lst k_Call x0.2.2.2]] []).bind (decAll [k_Group])
noncomputable def F_impl_OneServes (x0 : y_Group) : Option Bool := (calL fns prims 91 [.agg [.lst (.slice (.int .i64)) x0.1, .lst k_Member x0.2.1, .lst k_Msg x0.2.2.1, .lst k_Call x0.2.2.2]] []).bind (decAll [.bool])
noncomputable def F_laws_eqGroup (x0 : y_Group) (x1 : y_Group) : Option Bool := (calL fns prims 92 [.agg [.lst (.slice (.int .i64)) x0.1, .lst k_Member x0.2.1, .lst k_Msg x0.2.2.1, .lst k_Call x0.2.2.2], .agg [.lst (.slice (.int .i64)) x1.1, .lst k_Member x1.2.1, .lst k_Msg x1.2.2.1, .lst k_Call x1.2.2.2]] []).bind (decAll [.bool])
noncomputable def F_spec_Alike (x0 : y_Group) : Option Bool := (calL fns prims 93 [.agg [.lst (.slice (.int .i64)) x0.1, .lst k_Member x0.2.1, .lst k_Msg x0.2.2.1, .lst k_Call x0.2.2.2]] []).bind (decAll [.bool])
noncomputable def F_impl_Alike (x0 : y_Group) : Option Bool := (calL fns prims 94 [.agg [.lst (.slice (.int .i64)) x0.1, .lst k_Member x0.2.1, .lst k_Msg x0.2.2.1, .lst k_Call x0.2.2.2]] []).bind (decAll [.bool])
noncomputable def F_spec_l01New (x0 : List Int) : Option y_l01Cur := (calL fns prims 103 [.lst (.int .u8) x0] []).bind (decAll [(.ref k_l01Cur)])
noncomputable def F_spec_l01Place (x1 : Int) (b0 : y_l01Cur) : Option (Int × y_l01Cur) := (calL fns prims 104 [.ptr 0 0, .int .i64 x1] [.agg [.lst (.int .u8) b0.1, .int .i64 b0.2.1, .int .i64 b0.2.2]]).bind (decAll [(.int .i64), k_l01Cur])
noncomputable def F_impl_inRange (x0 : Int) (x1 : Int) (x2 : Int) : Option Bool := (calL fns prims 105 [.int .i64 x0, .int .i64 x1, .int .i64 x2] []).bind (decAll [.bool])
noncomputable def F_spec_l01In (x0 : Int) (x1 : Int) (x2 : Int) : Option Bool := (calL fns prims 106 [.int .i64 x0, .int .i64 x1, .int .i64 x2] []).bind (decAll [.bool])
noncomputable def F_spec_l01Below (x1 : Int) (b0 : y_l01Cur) : Option (Int × y_l01Cur) := (calL fns prims 107 [.ptr 0 0, .int .i64 x1] [.agg [.lst (.int .u8) b0.1, .int .i64 b0.2.1, .int .i64 b0.2.2]]).bind (decAll [(.int .i64), k_l01Cur])
noncomputable def F_spec_l11Note (b0 : y_l01Cur) : Option (y_Note × y_l01Cur) := (calL fns prims 108 [.ptr 0 0] [.agg [.lst (.int .u8) b0.1, .int .i64 b0.2.1, .int .i64 b0.2.2]]).bind (decAll [k_Note, k_l01Cur])
noncomputable def F_spec_VoiceOk (x0 : y_Voice) : Option Bool := (calL fns prims 109 [.agg [.int .i64 x0.1, .int .i64 x0.2.1, .str x0.2.2]] []).bind (decAll [.bool])
noncomputable def F_laws_szCall (x0 : y_Call) (x1 : Int) : Option Int := (calL fns prims 110 [.agg [.int .i64 x0.1, .str x0.2.1, .str x0.2.2.1, .int .i64 x0.2.2.2.1, .int .i64 x0.2.2.2.2.1, .int .i64 x0.2.2.2.2.2.1, .int .i64 x0.2.2.2.2.2.2.1, .int .i64 x0.2.2.2.2.2.2.2.1, .str x0.2.2.2.2.2.2.2.2], .int .i64 x1] []).bind (decAll [(.int .i64)])
noncomputable def F_laws_toCall (x0 : y_Call) : Option y_Call := (calL fns prims 113 [.agg [.int .i64 x0.1, .str x0.2.1, .str x0.2.2.1, .int .i64 x0.2.2.2.1, .int .i64 x0.2.2.2.2.1, .int .i64 x0.2.2.2.2.2.1, .int .i64 x0.2.2.2.2.2.2.1, .int .i64 x0.2.2.2.2.2.2.2.1, .str x0.2.2.2.2.2.2.2.2]] []).bind (decAll [k_Call])
noncomputable def F_laws_eqCall (x0 : y_Call) (x1 : y_Call) : Option Bool := (calL fns prims 117 [.agg [.int .i64 x0.1, .str x0.2.1, .str x0.2.2.1, .int .i64 x0.2.2.2.1, .int .i64 x0.2.2.2.2.1, .int .i64 x0.2.2.2.2.2.1, .int .i64 x0.2.2.2.2.2.2.1, .int .i64 x0.2.2.2.2.2.2.2.1, .str x0.2.2.2.2.2.2.2.2], .agg [.int .i64 x1.1, .str x1.2.1, .str x1.2.2.1, .int .i64 x1.2.2.2.1, .int .i64 x1.2.2.2.2.1, .int .i64 x1.2.2.2.2.2.1, .int .i64 x1.2.2.2.2.2.2.1, .int .i64 x1.2.2.2.2.2.2.2.1, .str x1.2.2.2.2.2.2.2.2]] []).bind (decAll [.bool])
noncomputable def F_spec_l01Byte (b0 : y_l01Cur) : Option (Int × y_l01Cur) := (calL fns prims 118 [.ptr 0 0] [.agg [.lst (.int .u8) b0.1, .int .i64 b0.2.1, .int .i64 b0.2.2]]).bind (decAll [(.int .i64), k_l01Cur])
noncomputable def F_laws_szIntS (x0 : List Int) (x1 : Int) : Option Int := (calL fns prims 140 [.lst (.int .i64) x0, .int .i64 x1] []).bind (decAll [(.int .i64)])
noncomputable def F_laws_szTask (x0 : y_Task) (x1 : Int) : Option Int := (calL fns prims 141 [.agg [.int .i64 x0.1, .int .i64 x0.2.1, .int .i64 x0.2.2.1, .str x0.2.2.2.1.1, .str x0.2.2.2.1.2.1, .int .i64 x0.2.2.2.1.2.2, .lst (.int .i64) x0.2.2.2.2], .int .i64 x1] []).bind (decAll [(.int .i64)])
noncomputable def F_laws_toIntS (x0 : List Int) : Option (List Int) := (calL fns prims 142 [.lst (.int .i64) x0] []).bind (decAll [(.slice (.int .i64))])
noncomputable def F_laws_toTask (x0 : y_Task) : Option y_Task := (calL fns prims 143 [.agg [.int .i64 x0.1, .int .i64 x0.2.1, .int .i64 x0.2.2.1, .str x0.2.2.2.1.1, .str x0.2.2.2.1.2.1, .int .i64 x0.2.2.2.1.2.2, .lst (.int .i64) x0.2.2.2.2]] []).bind (decAll [k_Task])
noncomputable def F_laws_eqIntS (x0 : List Int) (x1 : List Int) : Option Bool := (calL fns prims 144 [.lst (.int .i64) x0, .lst (.int .i64) x1] []).bind (decAll [.bool])
noncomputable def F_laws_eqTask (x0 : y_Task) (x1 : y_Task) : Option Bool := (calL fns prims 145 [.agg [.int .i64 x0.1, .int .i64 x0.2.1, .int .i64 x0.2.2.1, .str x0.2.2.2.1.1, .str x0.2.2.2.1.2.1, .int .i64 x0.2.2.2.1.2.2, .lst (.int .i64) x0.2.2.2.2], .agg [.int .i64 x1.1, .int .i64 x1.2.1, .int .i64 x1.2.2.1, .str x1.2.2.2.1.1, .str x1.2.2.2.1.2.1, .int .i64 x1.2.2.2.1.2.2, .lst (.int .i64) x1.2.2.2.2]] []).bind (decAll [.bool])
noncomputable def F_spec_l10In (x0 : List Int) (x1 : Int) : Option Bool := (calL fns prims 151 [.lst (.int .i64) x0, .int .i64 x1] []).bind (decAll [.bool])
noncomputable def F_slices_Contains_int_int (x0 : List Int) (x1 : Int) : Option Bool := (calL fns prims 154 [.lst (.int .i64) x0, .int .i64 x1] []).bind (decAll [.bool])
noncomputable def F_laws_eqItem (x0 : y_Item) (x1 : y_Item) : Option Bool := (calL fns prims 162 [.agg [.str x0.1, .str x0.2.1, .int .i64 x0.2.2], .agg [.str x1.1, .str x1.2.1, .int .i64 x1.2.2]] []).bind (decAll [.bool])
noncomputable def F_laws_szMemberS (x0 : List y_Member) (x1 : Int) : Option Int := (calL fns prims 188 [.lst k_Member x0, .int .i64 x1] []).bind (decAll [(.int .i64)])
noncomputable def F_laws_szMsgS (x0 : List y_Msg) (x1 : Int) : Option Int := (calL fns prims 189 [.lst k_Msg x0, .int .i64 x1] []).bind (decAll [(.int .i64)])
noncomputable def F_laws_toMemberS (x0 : List y_Member) : Option (List y_Member) := (calL fns prims 190 [.lst k_Member x0] []).bind (decAll [(.slice k_Member)])
noncomputable def F_laws_toMsgS (x0 : List y_Msg) : Option (List y_Msg) := (calL fns prims 191 [.lst k_Msg x0] []).bind (decAll [(.slice k_Msg)])
noncomputable def F_impl_Group_view (x1 : Int) (b0 : y_Group) : Option (List Int × y_Group) := (calL fns prims 192 [.ptr 0 0, .int .i64 x1] [.agg [.lst (.slice (.int .i64)) b0.1, .lst k_Member b0.2.1, .lst k_Msg b0.2.2.1, .lst k_Call b0.2.2.2]]).bind (decAll [(.slice (.int .i64)), k_Group])
noncomputable def F_laws_eqMemberS (x0 : List y_Member) (x1 : List y_Member) : Option Bool := (calL fns prims 193 [.lst k_Member x0, .lst k_Member x1] []).bind (decAll [.bool])
noncomputable def F_laws_eqMsgS (x0 : List y_Msg) (x1 : List y_Msg) : Option Bool := (calL fns prims 194 [.lst k_Msg x0, .lst k_Msg x1] []).bind (decAll [.bool])
noncomputable def F_spec_l16SameItems (x0 : List y_Item) (x1 : List y_Item) : Option Bool := (calL fns prims 195 [.lst k_Item x0, .lst k_Item x1] []).bind (decAll [.bool])
noncomputable def F_slices_Equal_impl_Item_impl_Item (x0 : List y_Item) (x1 : List y_Item) : Option Bool := (calL fns prims 196 [.lst k_Item x0, .lst k_Item x1] []).bind (decAll [.bool])
noncomputable def F_spec_l01Once (x1 : Int) (b0 : y_l01Cur) : Option (Bool × y_l01Cur) := (calL fns prims 208 [.ptr 0 0, .int .i64 x1] [.agg [.lst (.int .u8) b0.1, .int .i64 b0.2.1, .int .i64 b0.2.2]]).bind (decAll [.bool, k_l01Cur])
noncomputable def F_spec_l01PickInt (x1 : List Int) (b0 : y_l01Cur) : Option (Int × y_l01Cur) := (calL fns prims 209 [.ptr 0 0, .lst (.int .i64) x1] [.agg [.lst (.int .u8) b0.1, .int .i64 b0.2.1, .int .i64 b0.2.2]]).bind (decAll [(.int .i64), k_l01Cur])
noncomputable def F_spec_l11Value (b0 : y_l01Cur) : Option (ByteArray × y_l01Cur) := (calL fns prims 210 [.ptr 0 0] [.agg [.lst (.int .u8) b0.1, .int .i64 b0.2.1, .int .i64 b0.2.2]]).bind (decAll [.str, k_l01Cur])
noncomputable def F_spec_l01Long (x0 : Int) (x1 : Int) : Option ByteArray := (calL fns prims 211 [.int .i64 x0, .int .u8 x1] []).bind (decAll [.str])
noncomputable def F_slices_Index_int_int (x0 : List Int) (x1 : Int) : Option Int := (calL fns prims 226 [.lst (.int .i64) x0, .int .i64 x1] []).bind (decAll [(.int .i64)])
noncomputable def F_spec_l01Pick (x1 : List ByteArray) (b0 : y_l01Cur) : Option (ByteArray × y_l01Cur) := (calL fns prims 229 [.ptr 0 0, .lst .str x1] [.agg [.lst (.int .u8) b0.1, .int .i64 b0.2.1, .int .i64 b0.2.2]]).bind (decAll [.str, k_l01Cur])
end Go.Proofs.Ytnbfkndicldppaa.Core
