/- What the program's tables say of its types and functions. Printed by wip/stab.py of this session; Lean checks it. -/
import Derived.Test.YtbmafpbjkeehaaaS12
import Derived.Test.YtbmafpbjkeehaaaProg
namespace Go.Proofs.Ytbmafpbjkeehaaa.S
set_option linter.unusedVariables false

instance und_3 : Und Try.prog 3 (.int .i64) := ⟨Try.underlying3⟩
instance siz_3 : Siz Try.prog 3 1 := ⟨Try.sizeOf3⟩
instance agg_3 : Agg Try.prog 3 false := ⟨Try.isAgg3⟩
instance byt_3 : Byt Try.prog 3 8 := ⟨fun w => ⟨_, Try.typeInfo3 w, rfl⟩⟩
instance zro_3 : Zro Try.prog 3 (.int .i64 0) := ⟨Try.zeroValue3⟩
instance und_4 : Und Try.prog 4 (.bool) := ⟨Try.underlying4⟩
instance siz_4 : Siz Try.prog 4 1 := ⟨Try.sizeOf4⟩
instance agg_4 : Agg Try.prog 4 false := ⟨Try.isAgg4⟩
instance byt_4 : Byt Try.prog 4 1 := ⟨fun w => ⟨_, Try.typeInfo4 w, rfl⟩⟩
instance zro_4 : Zro Try.prog 4 (.bool false) := ⟨Try.zeroValue4⟩
instance und_5 : Und Try.prog 5 (.int .u8) := ⟨Try.underlying5⟩
instance siz_5 : Siz Try.prog 5 1 := ⟨Try.sizeOf5⟩
instance agg_5 : Agg Try.prog 5 false := ⟨Try.isAgg5⟩
instance byt_5 : Byt Try.prog 5 1 := ⟨fun w => ⟨_, Try.typeInfo5 w, rfl⟩⟩
instance zro_5 : Zro Try.prog 5 (.int .u8 0) := ⟨Try.zeroValue5⟩
instance und_9 : Und Try.prog 9 (.string) := ⟨Try.underlying9⟩
instance siz_9 : Siz Try.prog 9 1 := ⟨Try.sizeOf9⟩
instance agg_9 : Agg Try.prog 9 false := ⟨Try.isAgg9⟩
instance byt_9 : Byt Try.prog 9 16 := ⟨fun w => ⟨_, Try.typeInfo9 w, rfl⟩⟩
instance zro_9 : Zro Try.prog 9 (.string ⟨#[]⟩) := ⟨Try.zeroValue9⟩
instance und_22 : Und Try.prog 22 (.slice 34) := ⟨Try.underlying22⟩
instance siz_22 : Siz Try.prog 22 1 := ⟨Try.sizeOf22⟩
instance agg_22 : Agg Try.prog 22 false := ⟨Try.isAgg22⟩
instance byt_22 : Byt Try.prog 22 24 := ⟨fun w => ⟨_, Try.typeInfo22 w, rfl⟩⟩
instance zro_22 : Zro Try.prog 22 (.slice none 0 0) := ⟨Try.zeroValue22⟩
instance und_23 : Und Try.prog 23 (.pointer 71) := ⟨Try.underlying23⟩
instance siz_23 : Siz Try.prog 23 1 := ⟨Try.sizeOf23⟩
instance agg_23 : Agg Try.prog 23 false := ⟨Try.isAgg23⟩
instance byt_23 : Byt Try.prog 23 8 := ⟨fun w => ⟨_, Try.typeInfo23 w, rfl⟩⟩
instance zro_23 : Zro Try.prog 23 (.pointer none) := ⟨Try.zeroValue23⟩
instance und_25 : Und Try.prog 25 (.int .i64) := ⟨Try.underlying25⟩
instance siz_25 : Siz Try.prog 25 1 := ⟨Try.sizeOf25⟩
instance agg_25 : Agg Try.prog 25 false := ⟨Try.isAgg25⟩
instance byt_25 : Byt Try.prog 25 8 := ⟨fun w => ⟨_, Try.typeInfo25 w, rfl⟩⟩
instance zro_25 : Zro Try.prog 25 (.int .i64 0) := ⟨Try.zeroValue25⟩
instance siz_29 : Siz Try.prog 29 6 := ⟨Try.sizeOf29⟩
instance agg_29 : Agg Try.prog 29 true := ⟨Try.isAgg29⟩
instance byt_29 : Byt Try.prog 29 64 := ⟨fun w => ⟨_, Try.typeInfo29 w, rfl⟩⟩
instance zro_29 : Zro Try.prog 29 (.agg #[.int .i64 0, .int .i64 0, .int .i64 0, .int .i64 0, .string ⟨#[]⟩, .string ⟨#[]⟩]) := ⟨Try.zeroValue29⟩
instance und_30 : Und Try.prog 30 (.slice 56) := ⟨Try.underlying30⟩
instance siz_30 : Siz Try.prog 30 1 := ⟨Try.sizeOf30⟩
instance agg_30 : Agg Try.prog 30 false := ⟨Try.isAgg30⟩
instance byt_30 : Byt Try.prog 30 24 := ⟨fun w => ⟨_, Try.typeInfo30 w, rfl⟩⟩
instance zro_30 : Zro Try.prog 30 (.slice none 0 0) := ⟨Try.zeroValue30⟩
instance siz_32 : Siz Try.prog 32 3 := ⟨Try.sizeOf32⟩
instance agg_32 : Agg Try.prog 32 true := ⟨Try.isAgg32⟩
instance byt_32 : Byt Try.prog 32 40 := ⟨fun w => ⟨_, Try.typeInfo32 w, rfl⟩⟩
instance zro_32 : Zro Try.prog 32 (.agg #[.string ⟨#[]⟩, .string ⟨#[]⟩, .bool false]) := ⟨Try.zeroValue32⟩
instance siz_34 : Siz Try.prog 34 15 := ⟨Try.sizeOf34⟩
instance agg_34 : Agg Try.prog 34 true := ⟨Try.isAgg34⟩
instance byt_34 : Byt Try.prog 34 184 := ⟨fun w => ⟨_, Try.typeInfo34 w, rfl⟩⟩
instance zro_34 : Zro Try.prog 34 (.agg #[.int .i64 0, .int .i64 0, .string ⟨#[]⟩, .string ⟨#[]⟩, .int .i64 0, .int .i64 0, .int .i64 0, .int .i64 0, .string ⟨#[]⟩, .string ⟨#[]⟩, .int .i64 0, .slice none 0 0, .string ⟨#[]⟩, .string ⟨#[]⟩, .bool false]) := ⟨Try.zeroValue34⟩
instance und_47 : Und Try.prog 47 (.slice 80) := ⟨Try.underlying47⟩
instance siz_47 : Siz Try.prog 47 1 := ⟨Try.sizeOf47⟩
instance agg_47 : Agg Try.prog 47 false := ⟨Try.isAgg47⟩
instance byt_47 : Byt Try.prog 47 24 := ⟨fun w => ⟨_, Try.typeInfo47 w, rfl⟩⟩
instance zro_47 : Zro Try.prog 47 (.slice none 0 0) := ⟨Try.zeroValue47⟩
instance und_50 : Und Try.prog 50 (.slice 9) := ⟨Try.underlying50⟩
instance siz_50 : Siz Try.prog 50 1 := ⟨Try.sizeOf50⟩
instance agg_50 : Agg Try.prog 50 false := ⟨Try.isAgg50⟩
instance byt_50 : Byt Try.prog 50 24 := ⟨fun w => ⟨_, Try.typeInfo50 w, rfl⟩⟩
instance zro_50 : Zro Try.prog 50 (.slice none 0 0) := ⟨Try.zeroValue50⟩
instance siz_56 : Siz Try.prog 56 2 := ⟨Try.sizeOf56⟩
instance agg_56 : Agg Try.prog 56 true := ⟨Try.isAgg56⟩
instance byt_56 : Byt Try.prog 56 32 := ⟨fun w => ⟨_, Try.typeInfo56 w, rfl⟩⟩
instance zro_56 : Zro Try.prog 56 (.agg #[.string ⟨#[]⟩, .string ⟨#[]⟩]) := ⟨Try.zeroValue56⟩
instance und_66 : Und Try.prog 66 (.map 9 9) := ⟨Try.underlying66⟩
instance siz_66 : Siz Try.prog 66 1 := ⟨Try.sizeOf66⟩
instance agg_66 : Agg Try.prog 66 false := ⟨Try.isAgg66⟩
instance byt_66 : Byt Try.prog 66 8 := ⟨fun w => ⟨_, Try.typeInfo66 w, rfl⟩⟩
instance zro_66 : Zro Try.prog 66 (.map none) := ⟨Try.zeroValue66⟩
instance und_67 : Und Try.prog 67 (.slice 93) := ⟨Try.underlying67⟩
instance siz_67 : Siz Try.prog 67 1 := ⟨Try.sizeOf67⟩
instance agg_67 : Agg Try.prog 67 false := ⟨Try.isAgg67⟩
instance byt_67 : Byt Try.prog 67 24 := ⟨fun w => ⟨_, Try.typeInfo67 w, rfl⟩⟩
instance zro_67 : Zro Try.prog 67 (.slice none 0 0) := ⟨Try.zeroValue67⟩
instance und_68 : Und Try.prog 68 (.slice 3) := ⟨Try.underlying68⟩
instance siz_68 : Siz Try.prog 68 1 := ⟨Try.sizeOf68⟩
instance agg_68 : Agg Try.prog 68 false := ⟨Try.isAgg68⟩
instance byt_68 : Byt Try.prog 68 24 := ⟨fun w => ⟨_, Try.typeInfo68 w, rfl⟩⟩
instance zro_68 : Zro Try.prog 68 (.slice none 0 0) := ⟨Try.zeroValue68⟩
instance und_69 : Und Try.prog 69 (.map 3 85) := ⟨Try.underlying69⟩
instance siz_69 : Siz Try.prog 69 1 := ⟨Try.sizeOf69⟩
instance agg_69 : Agg Try.prog 69 false := ⟨Try.isAgg69⟩
instance byt_69 : Byt Try.prog 69 8 := ⟨fun w => ⟨_, Try.typeInfo69 w, rfl⟩⟩
instance zro_69 : Zro Try.prog 69 (.map none) := ⟨Try.zeroValue69⟩
instance siz_71 : Siz Try.prog 71 12 := ⟨Try.sizeOf71⟩
instance agg_71 : Agg Try.prog 71 true := ⟨Try.isAgg71⟩
instance byt_71 : Byt Try.prog 71 176 := ⟨fun w => ⟨_, Try.typeInfo71 w, rfl⟩⟩
instance zro_71 : Zro Try.prog 71 (.agg #[.map none, .string ⟨#[]⟩, .string ⟨#[]⟩, .bool false, .bool false, .int .i64 0, .slice none 0 0, .slice none 0 0, .slice none 0 0, .slice none 0 0, .map none, .int .i64 0]) := ⟨Try.zeroValue71⟩
instance und_77 : Und Try.prog 77 (.array 2 9) := ⟨Try.underlying77⟩
instance siz_77 : Siz Try.prog 77 2 := ⟨Try.sizeOf77⟩
instance agg_77 : Agg Try.prog 77 true := ⟨Try.isAgg77⟩
instance byt_77 : Byt Try.prog 77 32 := ⟨fun w => ⟨_, Try.typeInfo77 w, rfl⟩⟩
instance zro_77 : Zro Try.prog 77 (.agg #[.string ⟨#[]⟩, .string ⟨#[]⟩]) := ⟨Try.zeroValue77⟩
instance siz_80 : Siz Try.prog 80 6 := ⟨Try.sizeOf80⟩
instance agg_80 : Agg Try.prog 80 true := ⟨Try.isAgg80⟩
instance byt_80 : Byt Try.prog 80 88 := ⟨fun w => ⟨_, Try.typeInfo80 w, rfl⟩⟩
instance zro_80 : Zro Try.prog 80 (.agg #[.int .i64 0, .string ⟨#[]⟩, .string ⟨#[]⟩, .int .i64 0, .string ⟨#[]⟩, .slice none 0 0]) := ⟨Try.zeroValue80⟩
instance und_85 : Und Try.prog 85 (.slice 29) := ⟨Try.underlying85⟩
instance siz_85 : Siz Try.prog 85 1 := ⟨Try.sizeOf85⟩
instance agg_85 : Agg Try.prog 85 false := ⟨Try.isAgg85⟩
instance byt_85 : Byt Try.prog 85 24 := ⟨fun w => ⟨_, Try.typeInfo85 w, rfl⟩⟩
instance zro_85 : Zro Try.prog 85 (.slice none 0 0) := ⟨Try.zeroValue85⟩
instance siz_93 : Siz Try.prog 93 3 := ⟨Try.sizeOf93⟩
instance agg_93 : Agg Try.prog 93 true := ⟨Try.isAgg93⟩
instance byt_93 : Byt Try.prog 93 40 := ⟨fun w => ⟨_, Try.typeInfo93 w, rfl⟩⟩
instance zro_93 : Zro Try.prog 93 (.agg #[.string ⟨#[]⟩, .string ⟨#[]⟩, .bool false]) := ⟨Try.zeroValue93⟩
instance und_101 : Und Try.prog 101 (.int .u64) := ⟨Try.underlying101⟩
instance siz_101 : Siz Try.prog 101 1 := ⟨Try.sizeOf101⟩
instance agg_101 : Agg Try.prog 101 false := ⟨Try.isAgg101⟩
instance byt_101 : Byt Try.prog 101 8 := ⟨fun w => ⟨_, Try.typeInfo101 w, rfl⟩⟩
instance zro_101 : Zro Try.prog 101 (.int .u64 0) := ⟨Try.zeroValue101⟩
instance und_103 : Und Try.prog 103 (.int .i64) := ⟨Try.underlying103⟩
instance siz_103 : Siz Try.prog 103 1 := ⟨Try.sizeOf103⟩
instance agg_103 : Agg Try.prog 103 false := ⟨Try.isAgg103⟩
instance byt_103 : Byt Try.prog 103 8 := ⟨fun w => ⟨_, Try.typeInfo103 w, rfl⟩⟩
instance zro_103 : Zro Try.prog 103 (.int .i64 0) := ⟨Try.zeroValue103⟩
instance und_112 : Und Try.prog 112 (.int .u32) := ⟨Try.underlying112⟩
instance siz_112 : Siz Try.prog 112 1 := ⟨Try.sizeOf112⟩
instance agg_112 : Agg Try.prog 112 false := ⟨Try.isAgg112⟩
instance byt_112 : Byt Try.prog 112 4 := ⟨fun w => ⟨_, Try.typeInfo112 w, rfl⟩⟩
instance zro_112 : Zro Try.prog 112 (.int .u32 0) := ⟨Try.zeroValue112⟩
instance und_114 : Und Try.prog 114 (.int .u64) := ⟨Try.underlying114⟩
instance siz_114 : Siz Try.prog 114 1 := ⟨Try.sizeOf114⟩
instance agg_114 : Agg Try.prog 114 false := ⟨Try.isAgg114⟩
instance byt_114 : Byt Try.prog 114 8 := ⟨fun w => ⟨_, Try.typeInfo114 w, rfl⟩⟩
instance zro_114 : Zro Try.prog 114 (.int .u64 0) := ⟨Try.zeroValue114⟩
instance und_115 : Und Try.prog 115 (.int .u64) := ⟨Try.underlying115⟩
instance siz_115 : Siz Try.prog 115 1 := ⟨Try.sizeOf115⟩
instance agg_115 : Agg Try.prog 115 false := ⟨Try.isAgg115⟩
instance byt_115 : Byt Try.prog 115 8 := ⟨fun w => ⟨_, Try.typeInfo115 w, rfl⟩⟩
instance zro_115 : Zro Try.prog 115 (.int .u64 0) := ⟨Try.zeroValue115⟩
instance und_119 : Und Try.prog 119 (.pointer 3) := ⟨Try.underlying119⟩
instance siz_119 : Siz Try.prog 119 1 := ⟨Try.sizeOf119⟩
instance agg_119 : Agg Try.prog 119 false := ⟨Try.isAgg119⟩
instance byt_119 : Byt Try.prog 119 8 := ⟨fun w => ⟨_, Try.typeInfo119 w, rfl⟩⟩
instance zro_119 : Zro Try.prog 119 (.pointer none) := ⟨Try.zeroValue119⟩
instance und_121 : Und Try.prog 121 (.pointer 115) := ⟨Try.underlying121⟩
instance siz_121 : Siz Try.prog 121 1 := ⟨Try.sizeOf121⟩
instance agg_121 : Agg Try.prog 121 false := ⟨Try.isAgg121⟩
instance byt_121 : Byt Try.prog 121 8 := ⟨fun w => ⟨_, Try.typeInfo121 w, rfl⟩⟩
instance zro_121 : Zro Try.prog 121 (.pointer none) := ⟨Try.zeroValue121⟩
instance strT_32 : StrT Try.prog 32 [(9, 0), (9, 1), (4, 2)] := ⟨_, Try.underlying32, Try.stoodInHeld32, Try.eqGuardType32, rfl, by decide⟩
instance strT_56 : StrT Try.prog 56 [(9, 0), (9, 1)] := ⟨_, Try.underlying56, Try.stoodInHeld56, Try.eqGuardType56, rfl, by decide⟩
instance foff_29_0 : FOff Try.prog 29 0 0 := fOff_of (n := 0) Try.underlying29 rfl Try.sizeOf3 rfl
instance foff_29_1 : FOff Try.prog 29 1 1 := fOff_of (n := 0) Try.underlying29 rfl Try.sizeOf3 rfl
instance foff_29_2 : FOff Try.prog 29 2 2 := fOff_of (n := 0) Try.underlying29 rfl Try.sizeOf3 rfl
instance foff_29_3 : FOff Try.prog 29 3 3 := fOff_of (n := 0) Try.underlying29 rfl Try.sizeOf3 rfl
instance foff_29_4 : FOff Try.prog 29 4 4 := fOff_of (n := 0) Try.underlying29 rfl Try.sizeOf9 rfl
instance foff_29_5 : FOff Try.prog 29 5 5 := fOff_of (n := 0) Try.underlying29 rfl Try.sizeOf9 rfl
instance foff_32_0 : FOff Try.prog 32 0 0 := fOff_of (n := 0) Try.underlying32 rfl Try.sizeOf9 rfl
instance foff_32_1 : FOff Try.prog 32 1 1 := fOff_of (n := 0) Try.underlying32 rfl Try.sizeOf9 rfl
instance foff_32_2 : FOff Try.prog 32 2 2 := fOff_of (n := 0) Try.underlying32 rfl Try.sizeOf4 rfl
instance foff_34_0 : FOff Try.prog 34 0 0 := fOff_of (n := 0) Try.underlying34 rfl Try.sizeOf3 rfl
instance foff_34_2 : FOff Try.prog 34 2 2 := fOff_of (n := 0) Try.underlying34 rfl Try.sizeOf9 rfl
instance foff_34_3 : FOff Try.prog 34 3 3 := fOff_of (n := 0) Try.underlying34 rfl Try.sizeOf9 rfl
instance foff_34_5 : FOff Try.prog 34 5 10 := fOff_of (n := 0) Try.underlying34 rfl Try.sizeOf3 rfl
instance foff_56_0 : FOff Try.prog 56 0 0 := fOff_of (n := 0) Try.underlying56 rfl Try.sizeOf9 rfl
instance foff_56_1 : FOff Try.prog 56 1 1 := fOff_of (n := 0) Try.underlying56 rfl Try.sizeOf9 rfl
instance foff_71_0 : FOff Try.prog 71 0 0 := fOff_of (n := 0) Try.underlying71 rfl Try.sizeOf66 rfl
instance foff_71_1 : FOff Try.prog 71 1 1 := fOff_of (n := 2) Try.underlying71 rfl Try.sizeOf32 rfl
instance foff_71_2 : FOff Try.prog 71 2 4 := fOff_of (n := 0) Try.underlying71 rfl Try.sizeOf4 rfl
instance foff_71_3 : FOff Try.prog 71 3 5 := fOff_of (n := 0) Try.underlying71 rfl Try.sizeOf3 rfl
instance foff_71_4 : FOff Try.prog 71 4 6 := fOff_of (n := 0) Try.underlying71 rfl Try.sizeOf47 rfl
instance foff_71_5 : FOff Try.prog 71 5 7 := fOff_of (n := 0) Try.underlying71 rfl Try.sizeOf30 rfl
instance foff_71_6 : FOff Try.prog 71 6 8 := fOff_of (n := 0) Try.underlying71 rfl Try.sizeOf67 rfl
instance foff_71_7 : FOff Try.prog 71 7 9 := fOff_of (n := 0) Try.underlying71 rfl Try.sizeOf68 rfl
instance foff_71_8 : FOff Try.prog 71 8 10 := fOff_of (n := 0) Try.underlying71 rfl Try.sizeOf69 rfl
instance foff_71_9 : FOff Try.prog 71 9 11 := fOff_of (n := 0) Try.underlying71 rfl Try.sizeOf3 rfl
instance foff_80_0 : FOff Try.prog 80 0 0 := fOff_of (n := 0) Try.underlying80 rfl Try.sizeOf3 rfl
instance foff_80_1 : FOff Try.prog 80 1 1 := fOff_of (n := 0) Try.underlying80 rfl Try.sizeOf9 rfl
instance foff_80_2 : FOff Try.prog 80 2 2 := fOff_of (n := 0) Try.underlying80 rfl Try.sizeOf9 rfl
instance foff_80_3 : FOff Try.prog 80 3 3 := fOff_of (n := 0) Try.underlying80 rfl Try.sizeOf25 rfl
instance foff_80_5 : FOff Try.prog 80 5 5 := fOff_of (n := 0) Try.underlying80 rfl Try.sizeOf50 rfl
instance foff_93_0 : FOff Try.prog 93 0 0 := fOff_of (n := 0) Try.underlying93 rfl Try.sizeOf9 rfl
instance foff_93_1 : FOff Try.prog 93 1 1 := fOff_of (n := 0) Try.underlying93 rfl Try.sizeOf9 rfl
instance foff_93_2 : FOff Try.prog 93 2 2 := fOff_of (n := 0) Try.underlying93 rfl Try.sizeOf4 rfl
instance btab_32 : BTab Try.prog 32 [.string ⟨#[]⟩, .string ⟨#[]⟩, .bool false] [(0, 1), (1, 1), (2, 1)] := ⟨fun parts w => by simp [Instr.build]; exact run_fill (fillP _ _ parts.toList)⟩
instance btab_56 : BTab Try.prog 56 [.string ⟨#[]⟩, .string ⟨#[]⟩] [(0, 1), (1, 1)] := ⟨fun parts w => by simp [Instr.build]; exact run_fill (fillP _ _ parts.toList)⟩
instance btab_71 : BTab Try.prog 71 [.map none, .string ⟨#[]⟩, .string ⟨#[]⟩, .bool false, .bool false, .int .i64 0, .slice none 0 0, .slice none 0 0, .slice none 0 0, .slice none 0 0, .map none, .int .i64 0] [(0, 1), (1, 3), (4, 1), (5, 1), (6, 1), (7, 1), (8, 1), (9, 1), (10, 1), (11, 1)] := ⟨fun parts w => by simp [Instr.build]; exact run_fill (fillP _ _ parts.toList)⟩
instance btab_80 : BTab Try.prog 80 [.int .i64 0, .string ⟨#[]⟩, .string ⟨#[]⟩, .int .i64 0, .string ⟨#[]⟩, .slice none 0 0] [(0, 1), (1, 1), (2, 1), (3, 1), (4, 1), (5, 1)] := ⟨fun parts w => by simp [Instr.build]; exact run_fill (fillP _ _ parts.toList)⟩
instance btab_93 : BTab Try.prog 93 [.string ⟨#[]⟩, .string ⟨#[]⟩, .bool false] [(0, 1), (1, 1), (2, 1)] := ⟨fun parts w => by simp [Instr.build]; exact run_fill (fillP _ _ parts.toList)⟩
instance callee_2 : Callee Try.prog 2 := ⟨Try.call2⟩
instance callee_3 : Callee Try.prog 3 := ⟨Try.call3⟩
instance callee_4 : Callee Try.prog 4 := ⟨Try.call4⟩
instance callee_5 : Callee Try.prog 5 := ⟨Try.call5⟩
instance callee_6 : Callee Try.prog 6 := ⟨Try.call6⟩
instance callee_7 : Callee Try.prog 7 := ⟨Try.call7⟩
instance callee_8 : Callee Try.prog 8 := ⟨Try.call8⟩
instance callee_9 : Callee Try.prog 9 := ⟨Try.call9⟩
instance callee_10 : Callee Try.prog 10 := ⟨Try.call10⟩
instance callee_11 : Callee Try.prog 11 := ⟨Try.call11⟩
instance callee_12 : Callee Try.prog 12 := ⟨Try.call12⟩
instance callee_13 : Callee Try.prog 13 := ⟨Try.call13⟩
instance callee_14 : Callee Try.prog 14 := ⟨Try.call14⟩
instance callee_15 : Callee Try.prog 15 := ⟨Try.call15⟩
instance callee_16 : Callee Try.prog 16 := ⟨Try.call16⟩
instance callee_17 : Callee Try.prog 17 := ⟨Try.call17⟩
instance callee_18 : Callee Try.prog 18 := ⟨Try.call18⟩
instance callee_19 : Callee Try.prog 19 := ⟨Try.call19⟩
instance callee_20 : Callee Try.prog 20 := ⟨Try.call20⟩
instance callee_21 : Callee Try.prog 21 := ⟨Try.call21⟩
instance callee_22 : Callee Try.prog 22 := ⟨Try.call22⟩
instance callee_23 : Callee Try.prog 23 := ⟨Try.call23⟩
instance callee_24 : Callee Try.prog 24 := ⟨Try.call24⟩
instance callee_25 : Callee Try.prog 25 := ⟨Try.call25⟩
instance callee_26 : Callee Try.prog 26 := ⟨Try.call26⟩
instance callee_27 : Callee Try.prog 27 := ⟨Try.call27⟩
instance callee_28 : Callee Try.prog 28 := ⟨Try.call28⟩
instance callee_29 : Callee Try.prog 29 := ⟨Try.call29⟩
instance callee_30 : Callee Try.prog 30 := ⟨Try.call30⟩
instance callee_31 : Callee Try.prog 31 := ⟨Try.call31⟩
instance callee_32 : Callee Try.prog 32 := ⟨Try.call32⟩
instance callee_33 : Callee Try.prog 33 := ⟨Try.call33⟩
instance callee_34 : Callee Try.prog 34 := ⟨Try.call34⟩
instance callee_35 : Callee Try.prog 35 := ⟨Try.call35⟩
instance callee_36 : Callee Try.prog 36 := ⟨Try.call36⟩
instance callee_37 : Callee Try.prog 37 := ⟨Try.call37⟩
instance callee_38 : Callee Try.prog 38 := ⟨Try.call38⟩
instance callee_39 : Callee Try.prog 39 := ⟨Try.call39⟩
instance callee_40 : Callee Try.prog 40 := ⟨Try.call40⟩
instance callee_41 : Callee Try.prog 41 := ⟨Try.call41⟩
instance callee_42 : Callee Try.prog 42 := ⟨Try.call42⟩
instance callee_43 : Callee Try.prog 43 := ⟨Try.call43⟩
instance callee_44 : Callee Try.prog 44 := ⟨Try.call44⟩
instance callee_45 : Callee Try.prog 45 := ⟨Try.call45⟩
instance callee_46 : Callee Try.prog 46 := ⟨Try.call46⟩
instance callee_47 : Callee Try.prog 47 := ⟨Try.call47⟩
instance callee_48 : Callee Try.prog 48 := ⟨Try.call48⟩
instance callee_49 : Callee Try.prog 49 := ⟨Try.call49⟩
instance callee_50 : Callee Try.prog 50 := ⟨Try.call50⟩
instance callee_51 : Callee Try.prog 51 := ⟨Try.call51⟩
instance callee_52 : Callee Try.prog 52 := ⟨Try.call52⟩
instance callee_53 : Callee Try.prog 53 := ⟨Try.call53⟩
instance callee_54 : Callee Try.prog 54 := ⟨Try.call54⟩
instance callee_55 : Callee Try.prog 55 := ⟨Try.call55⟩
instance callee_56 : Callee Try.prog 56 := ⟨Try.call56⟩
instance callee_57 : Callee Try.prog 57 := ⟨Try.call57⟩
instance callee_58 : Callee Try.prog 58 := ⟨Try.call58⟩
instance callee_59 : Callee Try.prog 59 := ⟨Try.call59⟩
instance callee_60 : Callee Try.prog 60 := ⟨Try.call60⟩
instance callee_61 : Callee Try.prog 61 := ⟨Try.call61⟩
instance callee_62 : Callee Try.prog 62 := ⟨Try.call62⟩
instance callee_63 : Callee Try.prog 63 := ⟨Try.call63⟩
instance callee_64 : Callee Try.prog 64 := ⟨Try.call64⟩
instance callee_65 : Callee Try.prog 65 := ⟨Try.call65⟩
instance callee_66 : Callee Try.prog 66 := ⟨Try.call66⟩
instance callee_67 : Callee Try.prog 67 := ⟨Try.call67⟩
instance callee_68 : Callee Try.prog 68 := ⟨Try.call68⟩
instance callee_69 : Callee Try.prog 69 := ⟨Try.call69⟩
instance callee_70 : Callee Try.prog 70 := ⟨Try.call70⟩
instance callee_71 : Callee Try.prog 71 := ⟨Try.call71⟩
instance callee_72 : Callee Try.prog 72 := ⟨Try.call72⟩
instance callee_73 : Callee Try.prog 73 := ⟨Try.call73⟩
instance callee_74 : Callee Try.prog 74 := ⟨Try.call74⟩
instance callee_75 : Callee Try.prog 75 := ⟨Try.call75⟩
instance callee_76 : Callee Try.prog 76 := ⟨Try.call76⟩
instance resT_2 : ResT Try.f2 [] := ⟨rfl⟩
instance resT_3 : ResT Try.f3 [4] := ⟨rfl⟩
instance resT_4 : ResT Try.f4 [4] := ⟨rfl⟩
instance resT_5 : ResT Try.f5 [4] := ⟨rfl⟩
instance resT_6 : ResT Try.f6 [4] := ⟨rfl⟩
instance resT_7 : ResT Try.f7 [0] := ⟨rfl⟩
instance resT_8 : ResT Try.f8 [4] := ⟨rfl⟩
instance resT_9 : ResT Try.f9 [2] := ⟨rfl⟩
instance resT_10 : ResT Try.f10 [2] := ⟨rfl⟩
instance resT_11 : ResT Try.f11 [2] := ⟨rfl⟩
instance resT_13 : ResT Try.f13 [2] := ⟨rfl⟩
instance resT_14 : ResT Try.f14 [] := ⟨rfl⟩
instance resT_15 : ResT Try.f15 [4] := ⟨rfl⟩
instance resT_16 : ResT Try.f16 [] := ⟨rfl⟩
instance resT_18 : ResT Try.f18 [4, 5] := ⟨rfl⟩
instance resT_19 : ResT Try.f19 [2] := ⟨rfl⟩
instance resT_20 : ResT Try.f20 [0] := ⟨rfl⟩
instance resT_21 : ResT Try.f21 [2] := ⟨rfl⟩
instance resT_22 : ResT Try.f22 [4] := ⟨rfl⟩
instance resT_23 : ResT Try.f23 [4] := ⟨rfl⟩
instance resT_24 : ResT Try.f24 [2, 3] := ⟨rfl⟩
instance resT_25 : ResT Try.f25 [4, 5] := ⟨rfl⟩
instance resT_26 : ResT Try.f26 [6] := ⟨rfl⟩
instance resT_27 : ResT Try.f27 [4] := ⟨rfl⟩
instance resT_28 : ResT Try.f28 [6] := ⟨rfl⟩
instance resT_29 : ResT Try.f29 [6] := ⟨rfl⟩
instance resT_30 : ResT Try.f30 [4] := ⟨rfl⟩
instance resT_31 : ResT Try.f31 [4] := ⟨rfl⟩
instance resT_32 : ResT Try.f32 [2] := ⟨rfl⟩
instance resT_33 : ResT Try.f33 [4] := ⟨rfl⟩
instance resT_34 : ResT Try.f34 [2] := ⟨rfl⟩
instance resT_35 : ResT Try.f35 [2] := ⟨rfl⟩
instance resT_36 : ResT Try.f36 [2] := ⟨rfl⟩
instance resT_37 : ResT Try.f37 [] := ⟨rfl⟩
instance resT_38 : ResT Try.f38 [2] := ⟨rfl⟩
instance resT_39 : ResT Try.f39 [] := ⟨rfl⟩
instance resT_40 : ResT Try.f40 [2] := ⟨rfl⟩
instance resT_41 : ResT Try.f41 [2] := ⟨rfl⟩
instance resT_42 : ResT Try.f42 [2] := ⟨rfl⟩
instance resT_43 : ResT Try.f43 [4] := ⟨rfl⟩
instance resT_44 : ResT Try.f44 [] := ⟨rfl⟩
instance resT_45 : ResT Try.f45 [] := ⟨rfl⟩
instance resT_46 : ResT Try.f46 [4] := ⟨rfl⟩
instance resT_48 : ResT Try.f48 [8] := ⟨rfl⟩
instance resT_49 : ResT Try.f49 [4, 5] := ⟨rfl⟩
instance resT_50 : ResT Try.f50 [] := ⟨rfl⟩
instance resT_51 : ResT Try.f51 [2] := ⟨rfl⟩
instance resT_52 : ResT Try.f52 [] := ⟨rfl⟩
instance resT_53 : ResT Try.f53 [] := ⟨rfl⟩
instance resT_55 : ResT Try.f55 [] := ⟨rfl⟩
instance resT_56 : ResT Try.f56 [] := ⟨rfl⟩
instance resT_57 : ResT Try.f57 [] := ⟨rfl⟩
instance resT_58 : ResT Try.f58 [2] := ⟨rfl⟩
instance resT_59 : ResT Try.f59 [] := ⟨rfl⟩
instance resT_60 : ResT Try.f60 [] := ⟨rfl⟩
instance resT_61 : ResT Try.f61 [] := ⟨rfl⟩
instance resT_62 : ResT Try.f62 [6, 7] := ⟨rfl⟩
instance resT_63 : ResT Try.f63 [] := ⟨rfl⟩
instance resT_64 : ResT Try.f64 [6] := ⟨rfl⟩
instance resT_65 : ResT Try.f65 [4] := ⟨rfl⟩
instance resT_66 : ResT Try.f66 [8] := ⟨rfl⟩
instance resT_67 : ResT Try.f67 [8, 9] := ⟨rfl⟩
instance resT_68 : ResT Try.f68 [2] := ⟨rfl⟩
instance resT_69 : ResT Try.f69 [2] := ⟨rfl⟩
instance resT_70 : ResT Try.f70 [] := ⟨rfl⟩
instance resT_71 : ResT Try.f71 [2] := ⟨rfl⟩
instance resT_72 : ResT Try.f72 [2] := ⟨rfl⟩
instance resT_73 : ResT Try.f73 [6] := ⟨rfl⟩
instance resT_74 : ResT Try.f74 [10] := ⟨rfl⟩
instance resT_75 : ResT Try.f75 [2] := ⟨rfl⟩
instance resT_76 : ResT Try.f76 [8, 9] := ⟨rfl⟩
instance resC_12 : ResC Try.f12 2 32 := ⟨rfl⟩
instance resL_12 : ResL Try.f12 [.cell 2 32] := ⟨rfl⟩
instance resL_17 : ResL Try.f17 [.cell 2 32, .tmp 3] := ⟨rfl⟩
instance resL_47 : ResL Try.f47 [.cell 4 80, .tmp 5] := ⟨rfl⟩
instance resL_54 : ResL Try.f54 [.cell 4 56, .tmp 5] := ⟨rfl⟩
instance natIdx_c2 : NatIdx 2 2 := ⟨rfl⟩
instance natIdx_c3 : NatIdx 3 3 := ⟨rfl⟩
instance natIdx_c4 : NatIdx 4 4 := ⟨rfl⟩
instance natIdx_c5 : NatIdx 5 5 := ⟨rfl⟩
instance natIdx_c6 : NatIdx 6 6 := ⟨rfl⟩
instance natIdx_c7 : NatIdx 7 7 := ⟨rfl⟩
instance natIdx_c8 : NatIdx 8 8 := ⟨rfl⟩
instance natIdx_c9 : NatIdx 9 9 := ⟨rfl⟩
instance natIdx_c10 : NatIdx 10 10 := ⟨rfl⟩
instance natIdx_c11 : NatIdx 11 11 := ⟨rfl⟩
instance natIdx_c12 : NatIdx 12 12 := ⟨rfl⟩
instance natIdx_c13 : NatIdx 13 13 := ⟨rfl⟩
instance natIdx_c14 : NatIdx 14 14 := ⟨rfl⟩
instance natIdx_c15 : NatIdx 15 15 := ⟨rfl⟩
instance natIdx_c16 : NatIdx 16 16 := ⟨rfl⟩
instance natIdx_c17 : NatIdx 17 17 := ⟨rfl⟩
instance natIdx_c32 : NatIdx 32 32 := ⟨rfl⟩
instance natIdx_c50 : NatIdx 50 50 := ⟨rfl⟩
instance natIdx_c64 : NatIdx 64 64 := ⟨rfl⟩
instance natIdx_c100 : NatIdx 100 100 := ⟨rfl⟩
instance natIdx_c101 : NatIdx 101 101 := ⟨rfl⟩
instance natIdx_c102 : NatIdx 102 102 := ⟨rfl⟩
instance natIdx_c256 : NatIdx 256 256 := ⟨rfl⟩
instance natIdx_c4096 : NatIdx 4096 4096 := ⟨rfl⟩
instance natIdx_c65536 : NatIdx 65536 65536 := ⟨rfl⟩
instance natIdx_c1048576 : NatIdx 1048576 1048576 := ⟨rfl⟩
instance natIdx_c4294967296 : NatIdx 4294967296 4294967296 := ⟨rfl⟩
theorem mixed : Try.prog.follows .mixedOrders = true := by kernel_rfl
end Go.Proofs.Ytbmafpbjkeehaaa.S
