/- What the program's tables say of its types and functions. Printed by wip/stab.py of this session; Lean checks it. -/
import Derived.Test.YtcoohckdnefacaaS12
import Derived.Test.YtcoohckdnefacaaProg
namespace Go.Proofs.Ytcoohckdnefacaa.S
set_option linter.unusedVariables false

instance und_3 : Und Try.prog 3 (.int .i64) := ⟨Try.underlying3⟩
instance siz_3 : Siz Try.prog 3 1 := ⟨Try.sizeOf3⟩
instance agg_3 : Agg Try.prog 3 false := ⟨Try.isAgg3⟩
instance byt_3 : Byt Try.prog 3 8 := ⟨fun w => ⟨_, Try.typeInfo3 w, rfl⟩⟩
instance zro_3 : Zro Try.prog 3 (.int .i64 0) := ⟨Try.zeroValue3⟩
instance und_4 : Und Try.prog 4 (.bool) := ⟨Try.underlying4⟩
instance siz_4 : Siz Try.prog 4 1 := ⟨Try.sizeOf4⟩
instance agg_4 : Agg Try.prog 4 false := ⟨Try.isAgg4⟩
instance byt_4 : Byt Try.prog 4 1 := ⟨fun w => ⟨_, Try.typeInfo4 w, rfl⟩⟩
instance zro_4 : Zro Try.prog 4 (.bool false) := ⟨Try.zeroValue4⟩
instance und_5 : Und Try.prog 5 (.int .u8) := ⟨Try.underlying5⟩
instance siz_5 : Siz Try.prog 5 1 := ⟨Try.sizeOf5⟩
instance agg_5 : Agg Try.prog 5 false := ⟨Try.isAgg5⟩
instance byt_5 : Byt Try.prog 5 1 := ⟨fun w => ⟨_, Try.typeInfo5 w, rfl⟩⟩
instance zro_5 : Zro Try.prog 5 (.int .u8 0) := ⟨Try.zeroValue5⟩
instance und_9 : Und Try.prog 9 (.string) := ⟨Try.underlying9⟩
instance siz_9 : Siz Try.prog 9 1 := ⟨Try.sizeOf9⟩
instance agg_9 : Agg Try.prog 9 false := ⟨Try.isAgg9⟩
instance byt_9 : Byt Try.prog 9 16 := ⟨fun w => ⟨_, Try.typeInfo9 w, rfl⟩⟩
instance zro_9 : Zro Try.prog 9 (.string ⟨#[]⟩) := ⟨Try.zeroValue9⟩
instance und_22 : Und Try.prog 22 (.slice 54) := ⟨Try.underlying22⟩
instance siz_22 : Siz Try.prog 22 1 := ⟨Try.sizeOf22⟩
instance agg_22 : Agg Try.prog 22 false := ⟨Try.isAgg22⟩
instance byt_22 : Byt Try.prog 22 24 := ⟨fun w => ⟨_, Try.typeInfo22 w, rfl⟩⟩
instance zro_22 : Zro Try.prog 22 (.slice none 0 0) := ⟨Try.zeroValue22⟩
instance und_25 : Und Try.prog 25 (.slice 36) := ⟨Try.underlying25⟩
instance siz_25 : Siz Try.prog 25 1 := ⟨Try.sizeOf25⟩
instance agg_25 : Agg Try.prog 25 false := ⟨Try.isAgg25⟩
instance byt_25 : Byt Try.prog 25 24 := ⟨fun w => ⟨_, Try.typeInfo25 w, rfl⟩⟩
instance zro_25 : Zro Try.prog 25 (.slice none 0 0) := ⟨Try.zeroValue25⟩
instance und_29 : Und Try.prog 29 (.slice 38) := ⟨Try.underlying29⟩
instance siz_29 : Siz Try.prog 29 1 := ⟨Try.sizeOf29⟩
instance agg_29 : Agg Try.prog 29 false := ⟨Try.isAgg29⟩
instance byt_29 : Byt Try.prog 29 24 := ⟨fun w => ⟨_, Try.typeInfo29 w, rfl⟩⟩
instance zro_29 : Zro Try.prog 29 (.slice none 0 0) := ⟨Try.zeroValue29⟩
instance und_31 : Und Try.prog 31 (.int .i64) := ⟨Try.underlying31⟩
instance siz_31 : Siz Try.prog 31 1 := ⟨Try.sizeOf31⟩
instance agg_31 : Agg Try.prog 31 false := ⟨Try.isAgg31⟩
instance byt_31 : Byt Try.prog 31 8 := ⟨fun w => ⟨_, Try.typeInfo31 w, rfl⟩⟩
instance zro_31 : Zro Try.prog 31 (.int .i64 0) := ⟨Try.zeroValue31⟩
instance und_32 : Und Try.prog 32 (.slice 9) := ⟨Try.underlying32⟩
instance siz_32 : Siz Try.prog 32 1 := ⟨Try.sizeOf32⟩
instance agg_32 : Agg Try.prog 32 false := ⟨Try.isAgg32⟩
instance byt_32 : Byt Try.prog 32 24 := ⟨fun w => ⟨_, Try.typeInfo32 w, rfl⟩⟩
instance zro_32 : Zro Try.prog 32 (.slice none 0 0) := ⟨Try.zeroValue32⟩
instance siz_34 : Siz Try.prog 34 6 := ⟨Try.sizeOf34⟩
instance agg_34 : Agg Try.prog 34 true := ⟨Try.isAgg34⟩
instance byt_34 : Byt Try.prog 34 72 := ⟨fun w => ⟨_, Try.typeInfo34 w, rfl⟩⟩
instance zro_34 : Zro Try.prog 34 (.agg #[.int .i64 0, .string ⟨#[]⟩, .int .i64 0, .slice none 0 0, .int .i64 0, .int .i64 0]) := ⟨Try.zeroValue34⟩
instance siz_36 : Siz Try.prog 36 7 := ⟨Try.sizeOf36⟩
instance agg_36 : Agg Try.prog 36 true := ⟨Try.isAgg36⟩
instance byt_36 : Byt Try.prog 36 64 := ⟨fun w => ⟨_, Try.typeInfo36 w, rfl⟩⟩
instance zro_36 : Zro Try.prog 36 (.agg #[.int .i64 0, .int .i64 0, .int .i64 0, .int .i64 0, .int .i64 0, .string ⟨#[]⟩, .int .i64 0]) := ⟨Try.zeroValue36⟩
instance siz_38 : Siz Try.prog 38 13 := ⟨Try.sizeOf38⟩
instance agg_38 : Agg Try.prog 38 true := ⟨Try.isAgg38⟩
instance byt_38 : Byt Try.prog 38 136 := ⟨fun w => ⟨_, Try.typeInfo38 w, rfl⟩⟩
instance zro_38 : Zro Try.prog 38 (.agg #[.int .i64 0, .string ⟨#[]⟩, .int .i64 0, .slice none 0 0, .int .i64 0, .int .i64 0, .int .i64 0, .int .i64 0, .int .i64 0, .int .i64 0, .int .i64 0, .string ⟨#[]⟩, .int .i64 0]) := ⟨Try.zeroValue38⟩
instance und_39 : Und Try.prog 39 (.slice 34) := ⟨Try.underlying39⟩
instance siz_39 : Siz Try.prog 39 1 := ⟨Try.sizeOf39⟩
instance agg_39 : Agg Try.prog 39 false := ⟨Try.isAgg39⟩
instance byt_39 : Byt Try.prog 39 24 := ⟨fun w => ⟨_, Try.typeInfo39 w, rfl⟩⟩
instance zro_39 : Zro Try.prog 39 (.slice none 0 0) := ⟨Try.zeroValue39⟩
instance siz_41 : Siz Try.prog 41 2 := ⟨Try.sizeOf41⟩
instance agg_41 : Agg Try.prog 41 true := ⟨Try.isAgg41⟩
instance byt_41 : Byt Try.prog 41 48 := ⟨fun w => ⟨_, Try.typeInfo41 w, rfl⟩⟩
instance zro_41 : Zro Try.prog 41 (.agg #[.slice none 0 0, .slice none 0 0]) := ⟨Try.zeroValue41⟩
instance siz_45 : Siz Try.prog 45 4 := ⟨Try.sizeOf45⟩
instance agg_45 : Agg Try.prog 45 true := ⟨Try.isAgg45⟩
instance byt_45 : Byt Try.prog 45 32 := ⟨fun w => ⟨_, Try.typeInfo45 w, rfl⟩⟩
instance zro_45 : Zro Try.prog 45 (.agg #[.int .i64 0, .int .i64 0, .int .i64 0, .int .i64 0]) := ⟨Try.zeroValue45⟩
instance und_46 : Und Try.prog 46 (.slice 45) := ⟨Try.underlying46⟩
instance siz_46 : Siz Try.prog 46 1 := ⟨Try.sizeOf46⟩
instance agg_46 : Agg Try.prog 46 false := ⟨Try.isAgg46⟩
instance byt_46 : Byt Try.prog 46 24 := ⟨fun w => ⟨_, Try.typeInfo46 w, rfl⟩⟩
instance zro_46 : Zro Try.prog 46 (.slice none 0 0) := ⟨Try.zeroValue46⟩
instance siz_48 : Siz Try.prog 48 2 := ⟨Try.sizeOf48⟩
instance agg_48 : Agg Try.prog 48 true := ⟨Try.isAgg48⟩
instance byt_48 : Byt Try.prog 48 48 := ⟨fun w => ⟨_, Try.typeInfo48 w, rfl⟩⟩
instance zro_48 : Zro Try.prog 48 (.agg #[.slice none 0 0, .slice none 0 0]) := ⟨Try.zeroValue48⟩
instance und_52 : Und Try.prog 52 (.slice 56) := ⟨Try.underlying52⟩
instance siz_52 : Siz Try.prog 52 1 := ⟨Try.sizeOf52⟩
instance agg_52 : Agg Try.prog 52 false := ⟨Try.isAgg52⟩
instance byt_52 : Byt Try.prog 52 24 := ⟨fun w => ⟨_, Try.typeInfo52 w, rfl⟩⟩
instance zro_52 : Zro Try.prog 52 (.slice none 0 0) := ⟨Try.zeroValue52⟩
instance siz_54 : Siz Try.prog 54 4 := ⟨Try.sizeOf54⟩
instance agg_54 : Agg Try.prog 54 true := ⟨Try.isAgg54⟩
instance byt_54 : Byt Try.prog 54 40 := ⟨fun w => ⟨_, Try.typeInfo54 w, rfl⟩⟩
instance zro_54 : Zro Try.prog 54 (.agg #[.bool false, .int .i64 0, .int .i64 0, .string ⟨#[]⟩]) := ⟨Try.zeroValue54⟩
instance siz_56 : Siz Try.prog 56 5 := ⟨Try.sizeOf56⟩
instance agg_56 : Agg Try.prog 56 true := ⟨Try.isAgg56⟩
instance byt_56 : Byt Try.prog 56 48 := ⟨fun w => ⟨_, Try.typeInfo56 w, rfl⟩⟩
instance zro_56 : Zro Try.prog 56 (.agg #[.bool false, .bool false, .int .i64 0, .int .i64 0, .string ⟨#[]⟩]) := ⟨Try.zeroValue56⟩
instance und_61 : Und Try.prog 61 (.pointer 71) := ⟨Try.underlying61⟩
instance siz_61 : Siz Try.prog 61 1 := ⟨Try.sizeOf61⟩
instance agg_61 : Agg Try.prog 61 false := ⟨Try.isAgg61⟩
instance byt_61 : Byt Try.prog 61 8 := ⟨fun w => ⟨_, Try.typeInfo61 w, rfl⟩⟩
instance zro_61 : Zro Try.prog 61 (.pointer none) := ⟨Try.zeroValue61⟩
instance und_69 : Und Try.prog 69 (.map 3 72) := ⟨Try.underlying69⟩
instance siz_69 : Siz Try.prog 69 1 := ⟨Try.sizeOf69⟩
instance agg_69 : Agg Try.prog 69 false := ⟨Try.isAgg69⟩
instance byt_69 : Byt Try.prog 69 8 := ⟨fun w => ⟨_, Try.typeInfo69 w, rfl⟩⟩
instance zro_69 : Zro Try.prog 69 (.map none) := ⟨Try.zeroValue69⟩
instance siz_71 : Siz Try.prog 71 1 := ⟨Try.sizeOf71⟩
instance agg_71 : Agg Try.prog 71 true := ⟨Try.isAgg71⟩
instance byt_71 : Byt Try.prog 71 8 := ⟨fun w => ⟨_, Try.typeInfo71 w, rfl⟩⟩
instance zro_71 : Zro Try.prog 71 (.agg #[.map none]) := ⟨Try.zeroValue71⟩
instance und_72 : Und Try.prog 72 (.slice 5) := ⟨Try.underlying72⟩
instance siz_72 : Siz Try.prog 72 1 := ⟨Try.sizeOf72⟩
instance agg_72 : Agg Try.prog 72 false := ⟨Try.isAgg72⟩
instance byt_72 : Byt Try.prog 72 24 := ⟨fun w => ⟨_, Try.typeInfo72 w, rfl⟩⟩
instance zro_72 : Zro Try.prog 72 (.slice none 0 0) := ⟨Try.zeroValue72⟩
instance und_74 : Und Try.prog 74 (.slice 78) := ⟨Try.underlying74⟩
instance siz_74 : Siz Try.prog 74 1 := ⟨Try.sizeOf74⟩
instance agg_74 : Agg Try.prog 74 false := ⟨Try.isAgg74⟩
instance byt_74 : Byt Try.prog 74 24 := ⟨fun w => ⟨_, Try.typeInfo74 w, rfl⟩⟩
instance zro_74 : Zro Try.prog 74 (.slice none 0 0) := ⟨Try.zeroValue74⟩
instance siz_76 : Siz Try.prog 76 1 := ⟨Try.sizeOf76⟩
instance agg_76 : Agg Try.prog 76 false := ⟨Try.isAgg76⟩
instance byt_76 : Byt Try.prog 76 8 := ⟨fun w => ⟨_, Try.typeInfo76 w, rfl⟩⟩
instance zro_76 : Zro Try.prog 76 (.nilFunc) := ⟨Try.zeroValue76⟩
instance siz_78 : Siz Try.prog 78 2 := ⟨Try.sizeOf78⟩
instance agg_78 : Agg Try.prog 78 true := ⟨Try.isAgg78⟩
instance byt_78 : Byt Try.prog 78 16 := ⟨fun w => ⟨_, Try.typeInfo78 w, rfl⟩⟩
instance zro_78 : Zro Try.prog 78 (.agg #[.bool false, .nilFunc]) := ⟨Try.zeroValue78⟩
instance foff_34_0 : FOff Try.prog 34 0 0 := fOff_of (n := 0) Try.underlying34 rfl Try.sizeOf31 rfl
instance foff_34_1 : FOff Try.prog 34 1 1 := fOff_of (n := 0) Try.underlying34 rfl Try.sizeOf9 rfl
instance foff_34_2 : FOff Try.prog 34 2 2 := fOff_of (n := 0) Try.underlying34 rfl Try.sizeOf3 rfl
instance foff_34_3 : FOff Try.prog 34 3 3 := fOff_of (n := 0) Try.underlying34 rfl Try.sizeOf32 rfl
instance foff_36_0 : FOff Try.prog 36 0 0 := fOff_of (n := 0) Try.underlying36 rfl Try.sizeOf3 rfl
instance foff_36_1 : FOff Try.prog 36 1 1 := fOff_of (n := 0) Try.underlying36 rfl Try.sizeOf3 rfl
instance foff_36_2 : FOff Try.prog 36 2 2 := fOff_of (n := 0) Try.underlying36 rfl Try.sizeOf3 rfl
instance foff_36_3 : FOff Try.prog 36 3 3 := fOff_of (n := 0) Try.underlying36 rfl Try.sizeOf3 rfl
instance foff_36_4 : FOff Try.prog 36 4 4 := fOff_of (n := 0) Try.underlying36 rfl Try.sizeOf3 rfl
instance foff_36_5 : FOff Try.prog 36 5 5 := fOff_of (n := 0) Try.underlying36 rfl Try.sizeOf9 rfl
instance foff_36_6 : FOff Try.prog 36 6 6 := fOff_of (n := 0) Try.underlying36 rfl Try.sizeOf3 rfl
instance foff_38_0 : FOff Try.prog 38 0 0 := fOff_of (n := 5) Try.underlying38 rfl Try.sizeOf34 rfl
instance foff_38_1 : FOff Try.prog 38 1 6 := fOff_of (n := 6) Try.underlying38 rfl Try.sizeOf36 rfl
instance foff_41_0 : FOff Try.prog 41 0 0 := fOff_of (n := 0) Try.underlying41 rfl Try.sizeOf39 rfl
instance foff_41_1 : FOff Try.prog 41 1 1 := fOff_of (n := 0) Try.underlying41 rfl Try.sizeOf32 rfl
instance foff_45_1 : FOff Try.prog 45 1 1 := fOff_of (n := 0) Try.underlying45 rfl Try.sizeOf3 rfl
instance foff_45_2 : FOff Try.prog 45 2 2 := fOff_of (n := 0) Try.underlying45 rfl Try.sizeOf3 rfl
instance foff_48_0 : FOff Try.prog 48 0 0 := fOff_of (n := 0) Try.underlying48 rfl Try.sizeOf46 rfl
instance foff_48_1 : FOff Try.prog 48 1 1 := fOff_of (n := 0) Try.underlying48 rfl Try.sizeOf29 rfl
instance foff_54_0 : FOff Try.prog 54 0 0 := fOff_of (n := 0) Try.underlying54 rfl Try.sizeOf4 rfl
instance foff_54_1 : FOff Try.prog 54 1 1 := fOff_of (n := 0) Try.underlying54 rfl Try.sizeOf3 rfl
instance foff_54_2 : FOff Try.prog 54 2 2 := fOff_of (n := 0) Try.underlying54 rfl Try.sizeOf3 rfl
instance foff_54_3 : FOff Try.prog 54 3 3 := fOff_of (n := 0) Try.underlying54 rfl Try.sizeOf9 rfl
instance foff_56_0 : FOff Try.prog 56 0 0 := fOff_of (n := 0) Try.underlying56 rfl Try.sizeOf4 rfl
instance foff_56_1 : FOff Try.prog 56 1 1 := fOff_of (n := 3) Try.underlying56 rfl Try.sizeOf54 rfl
instance foff_71_0 : FOff Try.prog 71 0 0 := fOff_of (n := 0) Try.underlying71 rfl Try.sizeOf69 rfl
instance foff_78_0 : FOff Try.prog 78 0 0 := fOff_of (n := 0) Try.underlying78 rfl Try.sizeOf4 rfl
instance foff_78_1 : FOff Try.prog 78 1 1 := fOff_of (n := 0) Try.underlying78 rfl Try.sizeOf76 rfl
instance btab_34 : BTab Try.prog 34 [.int .i64 0, .string ⟨#[]⟩, .int .i64 0, .slice none 0 0, .int .i64 0, .int .i64 0] [(0, 1), (1, 1), (2, 1), (3, 1), (4, 1), (5, 1)] := ⟨fun parts w => by simp [Instr.build]; exact run_fill (fillP _ _ parts.toList)⟩
instance btab_36 : BTab Try.prog 36 [.int .i64 0, .int .i64 0, .int .i64 0, .int .i64 0, .int .i64 0, .string ⟨#[]⟩, .int .i64 0] [(0, 1), (1, 1), (2, 1), (3, 1), (4, 1), (5, 1), (6, 1)] := ⟨fun parts w => by simp [Instr.build]; exact run_fill (fillP _ _ parts.toList)⟩
instance btab_38 : BTab Try.prog 38 [.int .i64 0, .string ⟨#[]⟩, .int .i64 0, .slice none 0 0, .int .i64 0, .int .i64 0, .int .i64 0, .int .i64 0, .int .i64 0, .int .i64 0, .int .i64 0, .string ⟨#[]⟩, .int .i64 0] [(0, 6), (6, 7)] := ⟨fun parts w => by simp [Instr.build]; exact run_fill (fillP _ _ parts.toList)⟩
instance btab_41 : BTab Try.prog 41 [.slice none 0 0, .slice none 0 0] [(0, 1), (1, 1)] := ⟨fun parts w => by simp [Instr.build]; exact run_fill (fillP _ _ parts.toList)⟩
instance btab_45 : BTab Try.prog 45 [.int .i64 0, .int .i64 0, .int .i64 0, .int .i64 0] [(0, 1), (1, 1), (2, 1), (3, 1)] := ⟨fun parts w => by simp [Instr.build]; exact run_fill (fillP _ _ parts.toList)⟩
instance btab_48 : BTab Try.prog 48 [.slice none 0 0, .slice none 0 0] [(0, 1), (1, 1)] := ⟨fun parts w => by simp [Instr.build]; exact run_fill (fillP _ _ parts.toList)⟩
instance btab_71 : BTab Try.prog 71 [.map none] [(0, 1)] := ⟨fun parts w => by simp [Instr.build]; exact run_fill (fillP _ _ parts.toList)⟩
instance btab_78 : BTab Try.prog 78 [.bool false, .nilFunc] [(0, 1), (1, 1)] := ⟨fun parts w => by simp [Instr.build]; exact run_fill (fillP _ _ parts.toList)⟩
instance callee_2 : Callee Try.prog 2 := ⟨Try.call2⟩
instance callee_3 : Callee Try.prog 3 := ⟨Try.call3⟩
instance callee_4 : Callee Try.prog 4 := ⟨Try.call4⟩
instance callee_5 : Callee Try.prog 5 := ⟨Try.call5⟩
instance callee_6 : Callee Try.prog 6 := ⟨Try.call6⟩
instance callee_7 : Callee Try.prog 7 := ⟨Try.call7⟩
instance callee_8 : Callee Try.prog 8 := ⟨Try.call8⟩
instance callee_9 : Callee Try.prog 9 := ⟨Try.call9⟩
instance callee_10 : Callee Try.prog 10 := ⟨Try.call10⟩
instance callee_11 : Callee Try.prog 11 := ⟨Try.call11⟩
instance callee_12 : Callee Try.prog 12 := ⟨Try.call12⟩
instance callee_13 : Callee Try.prog 13 := ⟨Try.call13⟩
instance callee_14 : Callee Try.prog 14 := ⟨Try.call14⟩
instance callee_15 : Callee Try.prog 15 := ⟨Try.call15⟩
instance callee_16 : Callee Try.prog 16 := ⟨Try.call16⟩
instance callee_17 : Callee Try.prog 17 := ⟨Try.call17⟩
instance callee_18 : Callee Try.prog 18 := ⟨Try.call18⟩
instance callee_19 : Callee Try.prog 19 := ⟨Try.call19⟩
instance callee_20 : Callee Try.prog 20 := ⟨Try.call20⟩
instance callee_21 : Callee Try.prog 21 := ⟨Try.call21⟩
instance callee_22 : Callee Try.prog 22 := ⟨Try.call22⟩
instance callee_23 : Callee Try.prog 23 := ⟨Try.call23⟩
instance callee_24 : Callee Try.prog 24 := ⟨Try.call24⟩
instance callee_25 : Callee Try.prog 25 := ⟨Try.call25⟩
instance callee_26 : Callee Try.prog 26 := ⟨Try.call26⟩
instance callee_27 : Callee Try.prog 27 := ⟨Try.call27⟩
instance callee_28 : Callee Try.prog 28 := ⟨Try.call28⟩
instance resT_2 : ResT Try.f2 [] := ⟨rfl⟩
instance resT_3 : ResT Try.f3 [8] := ⟨rfl⟩
instance resT_4 : ResT Try.f4 [8] := ⟨rfl⟩
instance resT_5 : ResT Try.f5 [6] := ⟨rfl⟩
instance resT_6 : ResT Try.f6 [8] := ⟨rfl⟩
instance resT_7 : ResT Try.f7 [0] := ⟨rfl⟩
instance resT_8 : ResT Try.f8 [4] := ⟨rfl⟩
instance resT_9 : ResT Try.f9 [6, 7] := ⟨rfl⟩
instance resT_10 : ResT Try.f10 [6] := ⟨rfl⟩
instance resT_11 : ResT Try.f11 [2] := ⟨rfl⟩
instance resT_13 : ResT Try.f13 [2] := ⟨rfl⟩
instance resT_14 : ResT Try.f14 [6] := ⟨rfl⟩
instance resT_16 : ResT Try.f16 [4, 5] := ⟨rfl⟩
instance resT_17 : ResT Try.f17 [2] := ⟨rfl⟩
instance resT_18 : ResT Try.f18 [4, 5] := ⟨rfl⟩
instance resT_19 : ResT Try.f19 [4, 5] := ⟨rfl⟩
instance resT_20 : ResT Try.f20 [0] := ⟨rfl⟩
instance resT_21 : ResT Try.f21 [4, 5] := ⟨rfl⟩
instance resT_22 : ResT Try.f22 [4, 5] := ⟨rfl⟩
instance resT_23 : ResT Try.f23 [4, 5] := ⟨rfl⟩
instance resT_24 : ResT Try.f24 [4, 5] := ⟨rfl⟩
instance resT_25 : ResT Try.f25 [4, 5] := ⟨rfl⟩
instance resT_26 : ResT Try.f26 [4, 5] := ⟨rfl⟩
instance resT_27 : ResT Try.f27 [4] := ⟨rfl⟩
instance resT_28 : ResT Try.f28 [2] := ⟨rfl⟩
instance resC_15 : ResC Try.f15 6 36 := ⟨rfl⟩
instance resL_12 : ResL Try.f12 [.cell 4 41, .tmp 5] := ⟨rfl⟩
instance resL_15 : ResL Try.f15 [.cell 6 36] := ⟨rfl⟩
instance natIdx_c2 : NatIdx 2 2 := ⟨rfl⟩
instance natIdx_c3 : NatIdx 3 3 := ⟨rfl⟩
instance natIdx_c4 : NatIdx 4 4 := ⟨rfl⟩
instance natIdx_c5 : NatIdx 5 5 := ⟨rfl⟩
instance natIdx_c6 : NatIdx 6 6 := ⟨rfl⟩
instance natIdx_c7 : NatIdx 7 7 := ⟨rfl⟩
instance natIdx_c9 : NatIdx 9 9 := ⟨rfl⟩
instance natIdx_c60 : NatIdx 60 60 := ⟨rfl⟩
instance natIdx_c160 : NatIdx 160 160 := ⟨rfl⟩
instance natIdx_c200 : NatIdx 200 200 := ⟨rfl⟩
instance natIdx_c300 : NatIdx 300 300 := ⟨rfl⟩
instance natIdx_c65536 : NatIdx 65536 65536 := ⟨rfl⟩
theorem mixed : Try.prog.follows .mixedOrders = true := by kernel_rfl
end Go.Proofs.Ytcoohckdnefacaa.S
