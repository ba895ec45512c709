/- What the functions promise; no condition. -/
import Derived.Test.YthngeddaeoeimaaDoorNcF
import Derived.Test.YthngeddaeoeimaaDoorNcPr
namespace Go.Proofs.YthngeddaeoeimaaDoorTE
open Go Go.Proofs.YthngeddaeoeimaaDoorVE
set_option linter.unusedVariables false
theorem nums_Read_ok : EntryOk X0 35 ⟨[(.tmp 0, .str), (.tmp 1, .int .i64)], 0, [(.tmp 0, .int .i64), (.tmp 1, .int .i64), (.tmp 2, .int .i64)], nums_Read⟩ := fn_ok (X := X0) (t := tab0) (l := L_nums_Read) (j := J_nums_Read) xOk tab0_ok rfl (fun _ => rfl) fun v w h => ⟨kBig, (nums_Read_run kBig v).trans h⟩
theorem tab1_ok : TabsOk X0 tab1 := tab0_ok.step nums_Read_ok
theorem strings_genSplit_ok : EntryOk X0 56 ⟨[(.tmp 0, .str), (.tmp 1, .str), (.tmp 2, .int .i64), (.tmp 3, .int .i64)], 0, [(.tmp 0, .row 9 false)], strings_genSplit⟩ := fn_ok (X := X0) (t := tab1) (l := L_strings_genSplit) (j := J_strings_genSplit) xOk tab1_ok rfl (fun _ => rfl) fun v w h => ⟨kBig, (strings_genSplit_run kBig v).trans h⟩
theorem tab2_ok : TabsOk X0 tab2 := tab1_ok.step strings_genSplit_ok
theorem strings_Split_ok : EntryOk X0 52 ⟨[(.tmp 0, .str), (.tmp 1, .str)], 0, [(.tmp 0, .row 9 false)], strings_Split⟩ := fn_ok (X := X0) (t := tab2) (l := L_strings_Split) (j := J_strings_Split) xOk tab2_ok rfl (fun _ => rfl) fun v w h => ⟨0, (strings_Split_run 0 v).trans h⟩
theorem tab3_ok : TabsOk X0 tab3 := tab2_ok.step strings_Split_ok
theorem stringslite_Cut_ok : EntryOk X0 61 ⟨[(.tmp 0, .str), (.tmp 1, .str)], 0, [(.tmp 0, .str), (.tmp 1, .str), (.tmp 2, .bool)], stringslite_Cut⟩ := fn_ok (X := X0) (t := tab3) (l := L_stringslite_Cut) (j := J_stringslite_Cut) xOk tab3_ok rfl (fun _ => rfl) fun v w h => ⟨0, (stringslite_Cut_run 0 v).trans h⟩
theorem tab4_ok : TabsOk X0 tab4 := tab3_ok.step stringslite_Cut_ok
theorem strings_Cut_ok : EntryOk X0 45 ⟨[(.tmp 0, .str), (.tmp 1, .str)], 0, [(.tmp 0, .str), (.tmp 1, .str), (.tmp 2, .bool)], strings_Cut⟩ := fn_ok (X := X0) (t := tab4) (l := L_strings_Cut) (j := J_strings_Cut) xOk tab4_ok rfl (fun _ => rfl) fun v w h => ⟨0, (strings_Cut_run 0 v).trans h⟩
theorem tab5_ok : TabsOk X0 tab5 := tab4_ok.step strings_Cut_ok
theorem nums_Whole_ok : EntryOk X0 69 ⟨[(.tmp 0, .str)], 0, [(.tmp 0, .int .i64), (.tmp 1, .bool)], nums_Whole⟩ := fn_ok (X := X0) (t := tab5) (l := L_nums_Whole) (j := J_nums_Whole) xOk tab5_ok rfl (fun _ => rfl) fun v w h => ⟨0, (nums_Whole_run 0 v).trans h⟩
theorem tab6_ok : TabsOk X0 tab6 := tab5_ok.step nums_Whole_ok
theorem nums_one_ok : EntryOk X0 53 ⟨[(.tmp 0, .str)], 0, [(.tmp 0, .sct 65), (.tmp 1, .bool)], nums_one⟩ := fn_ok (X := X0) (t := tab6) (l := L_nums_one) (j := J_nums_one) xOk tab6_ok rfl (fun _ => rfl) fun v w h => ⟨0, (nums_one_run 0 v).trans h⟩
theorem tab7_ok : TabsOk X0 tab7 := tab6_ok.step nums_one_ok
theorem nums_Ranges_ok : EntryOk X0 37 ⟨[(.tmp 0, .str)], 0, [(.tmp 0, .row 65 false), (.tmp 1, .bool)], nums_Ranges⟩ := fn_ok (X := X0) (t := tab7) (l := L_nums_Ranges) (j := J_nums_Ranges) xOk tab7_ok rfl (fun _ => rfl) fun v w h => ⟨kBig, (nums_Ranges_run kBig v).trans h⟩
theorem tab8_ok : TabsOk X0 tab8 := tab7_ok.step nums_Ranges_ok
theorem nums_Put_ok : EntryOk X0 34 ⟨[(.tmp 0, .int .i64)], 0, [(.tmp 0, .str)], nums_Put⟩ := fn_ok (X := X0) (t := tab8) (l := L_nums_Put) (j := J_nums_Put) xOk tab8_ok rfl (fun _ => rfl) fun v w h => ⟨0, (nums_Put_run 0 v).trans h⟩
theorem tab9_ok : TabsOk X0 tab9 := tab8_ok.step nums_Put_ok
theorem law2_num_ok : EntryOk X0 36 ⟨[(.tmp 0, .int .i64)], 0, [(.tmp 0, .int .i64)], law2_num⟩ := fn_ok (X := X0) (t := tab9) (l := L_law2_num) (j := J_law2_num) xOk tab9_ok rfl (fun _ => rfl) fun v w h => ⟨0, (law2_num_run 0 v).trans h⟩
theorem tab10_ok : TabsOk X0 tab10 := tab9_ok.step law2_num_ok
theorem nums_Has_ok : EntryOk X0 49 ⟨[(.tmp 0, .row 65 false), (.tmp 1, .int .i64)], 0, [(.tmp 0, .bool)], nums_Has⟩ := fn_ok (X := X0) (t := tab10) (l := L_nums_Has) (j := J_nums_Has) xOk tab10_ok rfl (fun _ => rfl) fun v w h => ⟨kBig, (nums_Has_run kBig v).trans h⟩
theorem tab11_ok : TabsOk X0 tab11 := tab10_ok.step nums_Has_ok
theorem law2_alive_ok : EntryOk X0 33 ⟨[], 0, [(.tmp 0, .bool)], law2_alive⟩ := fn_ok (X := X0) (t := tab11) (l := L_law2_alive) (j := J_law2_alive) xOk tab11_ok rfl (fun _ => rfl) fun v w h => ⟨0, (law2_alive_run 0 v).trans h⟩
theorem tab12_ok : TabsOk X0 tab12 := tab11_ok.step law2_alive_ok
theorem law2_NumsRow_ok : EntryOk X0 14 ⟨[(.tmp 0, .row 3 false), (.tmp 1, .int .u8)], 0, [(.tmp 0, .bool)], law2_NumsRow⟩ := fn_ok (X := X0) (t := tab12) (l := L_law2_NumsRow) (j := J_law2_NumsRow) xOk tab12_ok rfl (fun _ => rfl) fun v w h => ⟨kBig, (law2_NumsRow_run kBig v).trans h⟩
theorem tab13_ok : TabsOk X0 tab13 := tab12_ok.step law2_NumsRow_ok
theorem law2_NumsBack_ok : EntryOk X0 12 ⟨[(.tmp 0, .int .i64), (.tmp 1, .int .i64), (.tmp 2, .str)], 0, [(.tmp 0, .bool)], law2_NumsBack⟩ := fn_ok (X := X0) (t := tab13) (l := L_law2_NumsBack) (j := J_law2_NumsBack) xOk tab13_ok rfl (fun _ => rfl) fun v w h => ⟨0, (law2_NumsBack_run 0 v).trans h⟩
theorem tab14_ok : TabsOk X0 tab14 := tab13_ok.step law2_NumsBack_ok
end Go.Proofs.YthngeddaeoeimaaDoorTE
