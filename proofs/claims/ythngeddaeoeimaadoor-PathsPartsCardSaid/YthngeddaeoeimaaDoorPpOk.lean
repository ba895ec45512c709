/- What the functions promise; no condition. -/
import Derived.Test.YthngeddaeoeimaaDoorPpF
import Derived.Test.YthngeddaeoeimaaDoorPpPr
namespace Go.Proofs.YthngeddaeoeimaaDoorTE
open Go Go.Proofs.YthngeddaeoeimaaDoorVE
set_option linter.unusedVariables false
theorem stringslite_Cut_ok : EntryOk X0 61 ⟨[(.tmp 0, .str), (.tmp 1, .str)], 0, [(.tmp 0, .str), (.tmp 1, .str), (.tmp 2, .bool)], stringslite_Cut⟩ := fn_ok (X := X0) (t := tab0) (l := L_stringslite_Cut) (j := J_stringslite_Cut) xOk tab0_ok rfl (fun _ => rfl) fun v w h => ⟨0, (stringslite_Cut_run 0 v).trans h⟩
theorem tab1_ok : TabsOk X0 tab1 := tab0_ok.step stringslite_Cut_ok rfl
theorem strings_Cut_ok : EntryOk X0 45 ⟨[(.tmp 0, .str), (.tmp 1, .str)], 0, [(.tmp 0, .str), (.tmp 1, .str), (.tmp 2, .bool)], strings_Cut⟩ := fn_ok (X := X0) (t := tab1) (l := L_strings_Cut) (j := J_strings_Cut) xOk tab1_ok rfl (fun _ => rfl) fun v w h => ⟨0, (strings_Cut_run 0 v).trans h⟩
theorem tab2_ok : TabsOk X0 tab2 := tab1_ok.step strings_Cut_ok rfl
theorem strings_trimLeftByte_ok : EntryOk X0 62 ⟨[(.tmp 0, .str), (.tmp 1, .int .u8)], 0, [(.tmp 0, .str)], strings_trimLeftByte⟩ := fn_ok (X := X0) (t := tab2) (l := L_strings_trimLeftByte) (j := J_strings_trimLeftByte) xOk tab2_ok rfl (fun _ => rfl) fun v w h => ⟨kBig, (strings_trimLeftByte_run kBig v).trans h⟩
theorem tab3_ok : TabsOk X0 tab3 := tab2_ok.step strings_trimLeftByte_ok rfl
theorem utf8_ValidRune_ok : EntryOk X0 105 ⟨[(.tmp 0, .int .i32)], 0, [(.tmp 0, .bool)], utf8_ValidRune⟩ := fn_ok (X := X0) (t := tab3) (l := L_utf8_ValidRune) (j := J_utf8_ValidRune) xOk tab3_ok rfl (fun _ => rfl) fun v w h => ⟨0, (utf8_ValidRune_run 0 v).trans h⟩
theorem tab4_ok : TabsOk X0 tab4 := tab3_ok.step utf8_ValidRune_ok rfl
theorem bytealg_Cutover_ok : EntryOk X0 87 ⟨[(.tmp 0, .int .i64)], 0, [(.tmp 0, .int .i64)], bytealg_Cutover⟩ := fn_ok (X := X0) (t := tab4) (l := L_bytealg_Cutover) (j := J_bytealg_Cutover) xOk tab4_ok rfl (fun _ => rfl) fun v w h => ⟨0, (bytealg_Cutover_run 0 v).trans h⟩
theorem tab5_ok : TabsOk X0 tab5 := tab4_ok.step bytealg_Cutover_ok rfl
theorem paths_Strip_ok : EntryOk X0 26 ⟨[(.tmp 0, .str), (.tmp 1, .int .i64)], 0, [(.tmp 0, .str)], paths_Strip⟩ := fn_ok (X := X0) (t := tab5) (l := L_paths_Strip) (j := J_paths_Strip) xOk tab5_ok rfl (fun _ => rfl) fun v w h => ⟨kBig, (paths_Strip_run kBig v).trans h⟩
theorem tab6_ok : TabsOk X0 tab6 := tab5_ok.step paths_Strip_ok rfl
theorem paths_Base_ok : EntryOk X0 30 ⟨[(.tmp 0, .str)], 0, [(.tmp 0, .str)], paths_Base⟩ := fn_ok (X := X0) (t := tab6) (l := L_paths_Base) (j := J_paths_Base) xOk tab6_ok rfl (fun _ => rfl) fun v w h => ⟨0, (paths_Base_run 0 v).trans h⟩
theorem tab7_ok : TabsOk X0 tab7 := tab6_ok.step paths_Base_ok rfl
theorem law3_alive_ok : EntryOk X0 25 ⟨[], 0, [(.tmp 0, .bool)], law3_alive⟩ := fn_ok (X := X0) (t := tab7) (l := L_law3_alive) (j := J_law3_alive) xOk tab7_ok rfl (fun _ => rfl) fun v w h => ⟨0, (law3_alive_run 0 v).trans h⟩
theorem tab8_ok : TabsOk X0 tab8 := tab7_ok.step law3_alive_ok rfl
theorem ref1_Cuts_ok : EntryOk X0 32 ⟨[(.tmp 0, .str), (.tmp 1, .int .u8)], 0, [(.tmp 0, .row 9 false)], ref1_Cuts⟩ := fn_ok (X := X0) (t := tab8) (l := L_ref1_Cuts) (j := J_ref1_Cuts) xOk tab8_ok rfl (fun _ => rfl) fun v w h => ⟨kBig, (ref1_Cuts_run kBig v).trans h⟩
theorem tab9_ok : TabsOk X0 tab9 := tab8_ok.step ref1_Cuts_ok rfl
theorem ref1_SameTexts_ok : EntryOk X0 19 ⟨[(.tmp 0, .row 9 false), (.tmp 1, .row 9 false)], 0, [(.tmp 0, .bool)], ref1_SameTexts⟩ := fn_ok (X := X0) (t := tab9) (l := L_ref1_SameTexts) (j := J_ref1_SameTexts) xOk tab9_ok rfl (fun _ => rfl) fun v w h => ⟨kBig, (ref1_SameTexts_run kBig v).trans h⟩
theorem tab10_ok : TabsOk X0 tab10 := tab9_ok.step ref1_SameTexts_ok rfl
theorem law3_PathsParts_ok : EntryOk X0 10 ⟨[(.tmp 0, .row 9 false), (.tmp 1, .row 3 false)], 0, [(.tmp 0, .bool)], law3_PathsParts⟩ := fn_ok (X := X0) (t := tab10) (l := L_law3_PathsParts) (j := J_law3_PathsParts) xOk tab10_ok rfl (fun _ => rfl) fun v w h => ⟨kBig, (law3_PathsParts_run kBig v).trans h⟩
theorem tab11_ok : TabsOk X0 tab11 := tab10_ok.step law3_PathsParts_ok rfl
end Go.Proofs.YthngeddaeoeimaaDoorTE
