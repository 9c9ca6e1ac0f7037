/-
  Part 7 of a proof: own texts, merged by program.
-/
import Derived.Test.YtoahnccffedojaaGreatDoorP03
import Derived.Test.YtoahnccffedojaaGreatDoorP06
set_option linter.unusedVariables false
set_option linter.unusedSimpArgs false
namespace Go.Sg
open Go Vc Go.Proofs
noncomputable abbrev b_bytealg_abigen_runtime_cmpstring : Func := Tryz.f138
theorem b_bytealg_abigen_runtime_cmpstring_at : Pg.funcs[f_bytealg_abigen_runtime_cmpstring]? = some b_bytealg_abigen_runtime_cmpstring := Tryz.func138
noncomputable abbrev b_slices_overlaps_api_Pair : Func := Tryz.f183
theorem b_slices_overlaps_api_Pair_at : Pg.funcs[f_slices_overlaps_api_Pair]? = some b_slices_overlaps_api_Pair := Tryz.func183
noncomputable abbrev b_slices_overlaps_api_Msg : Func := Tryz.f218
theorem b_slices_overlaps_api_Msg_at : Pg.funcs[f_slices_overlaps_api_Msg]? = some b_slices_overlaps_api_Msg := Tryz.func218
noncomputable abbrev b_slices_overlaps_uint32 : Func := Tryz.f285
theorem b_slices_overlaps_uint32_at : Pg.funcs[f_slices_overlaps_uint32]? = some b_slices_overlaps_uint32 := Tryz.func285
noncomputable abbrev b_slices_overlaps_string : Func := Tryz.f291
theorem b_slices_overlaps_string_at : Pg.funcs[f_slices_overlaps_string]? = some b_slices_overlaps_string := Tryz.func291
noncomputable abbrev b_maps_Keys_map_1 : Func := Tryz.f190
theorem b_maps_Keys_map_1_at : Pg.funcs[f_maps_Keys_map_1]? = some b_maps_Keys_map_1 := Tryz.func190
theorem b_maps_Keys_map_1_nt : Func.ntmps b_maps_Keys_map_1 = 14 := Tryz.ntmps190
noncomputable abbrev b_slices_AppendSeq_uint32 : Func := Tryz.f238
theorem b_slices_AppendSeq_uint32_at : Pg.funcs[f_slices_AppendSeq_uint32]? = some b_slices_AppendSeq_uint32 := Tryz.func238
theorem b_slices_AppendSeq_uint32_nt : Func.ntmps b_slices_AppendSeq_uint32 = 13 := Tryz.ntmps238
end Go.Sg
