/- What the program's tables say of its types and functions. Printed by wip/stab.py of this session; Lean checks it. -/
import Derived.Test.YtjmicpkinflofaaS12
import Derived.Test.YtjmicpkinflofaaProg
namespace Go.Proofs.Ytjmicpkinflofaa.S
set_option linter.unusedVariables false

instance und_3 : Und Try.prog 3 (.int .i64) := ⟨Try.underlying3⟩
instance siz_3 : Siz Try.prog 3 1 := ⟨Try.sizeOf3⟩
instance agg_3 : Agg Try.prog 3 false := ⟨Try.isAgg3⟩
instance byt_3 : Byt Try.prog 3 8 := ⟨fun w => ⟨_, Try.typeInfo3 w, rfl⟩⟩
instance zro_3 : Zro Try.prog 3 (.int .i64 0) := ⟨Try.zeroValue3⟩
instance und_4 : Und Try.prog 4 (.bool) := ⟨Try.underlying4⟩
instance siz_4 : Siz Try.prog 4 1 := ⟨Try.sizeOf4⟩
instance agg_4 : Agg Try.prog 4 false := ⟨Try.isAgg4⟩
instance byt_4 : Byt Try.prog 4 1 := ⟨fun w => ⟨_, Try.typeInfo4 w, rfl⟩⟩
instance zro_4 : Zro Try.prog 4 (.bool false) := ⟨Try.zeroValue4⟩
instance und_9 : Und Try.prog 9 (.string) := ⟨Try.underlying9⟩
instance siz_9 : Siz Try.prog 9 1 := ⟨Try.sizeOf9⟩
instance agg_9 : Agg Try.prog 9 false := ⟨Try.isAgg9⟩
instance byt_9 : Byt Try.prog 9 16 := ⟨fun w => ⟨_, Try.typeInfo9 w, rfl⟩⟩
instance zro_9 : Zro Try.prog 9 (.string ⟨#[]⟩) := ⟨Try.zeroValue9⟩
instance und_22 : Und Try.prog 22 (.slice 49) := ⟨Try.underlying22⟩
instance siz_22 : Siz Try.prog 22 1 := ⟨Try.sizeOf22⟩
instance agg_22 : Agg Try.prog 22 false := ⟨Try.isAgg22⟩
instance byt_22 : Byt Try.prog 22 24 := ⟨fun w => ⟨_, Try.typeInfo22 w, rfl⟩⟩
instance zro_22 : Zro Try.prog 22 (.slice none 0 0) := ⟨Try.zeroValue22⟩
instance und_23 : Und Try.prog 23 (.slice 3) := ⟨Try.underlying23⟩
instance siz_23 : Siz Try.prog 23 1 := ⟨Try.sizeOf23⟩
instance agg_23 : Agg Try.prog 23 false := ⟨Try.isAgg23⟩
instance byt_23 : Byt Try.prog 23 24 := ⟨fun w => ⟨_, Try.typeInfo23 w, rfl⟩⟩
instance zro_23 : Zro Try.prog 23 (.slice none 0 0) := ⟨Try.zeroValue23⟩
instance siz_25 : Siz Try.prog 25 2 := ⟨Try.sizeOf25⟩
instance agg_25 : Agg Try.prog 25 true := ⟨Try.isAgg25⟩
instance byt_25 : Byt Try.prog 25 48 := ⟨fun w => ⟨_, Try.typeInfo25 w, rfl⟩⟩
instance zro_25 : Zro Try.prog 25 (.agg #[.slice none 0 0, .slice none 0 0]) := ⟨Try.zeroValue25⟩
instance und_26 : Und Try.prog 26 (.pointer 33) := ⟨Try.underlying26⟩
instance siz_26 : Siz Try.prog 26 1 := ⟨Try.sizeOf26⟩
instance agg_26 : Agg Try.prog 26 false := ⟨Try.isAgg26⟩
instance byt_26 : Byt Try.prog 26 8 := ⟨fun w => ⟨_, Try.typeInfo26 w, rfl⟩⟩
instance zro_26 : Zro Try.prog 26 (.pointer none) := ⟨Try.zeroValue26⟩
instance und_27 : Und Try.prog 27 (.pointer 76) := ⟨Try.underlying27⟩
instance siz_27 : Siz Try.prog 27 1 := ⟨Try.sizeOf27⟩
instance agg_27 : Agg Try.prog 27 false := ⟨Try.isAgg27⟩
instance byt_27 : Byt Try.prog 27 8 := ⟨fun w => ⟨_, Try.typeInfo27 w, rfl⟩⟩
instance zro_27 : Zro Try.prog 27 (.pointer none) := ⟨Try.zeroValue27⟩
instance und_28 : Und Try.prog 28 (.array 3 27) := ⟨Try.underlying28⟩
instance siz_28 : Siz Try.prog 28 3 := ⟨Try.sizeOf28⟩
instance agg_28 : Agg Try.prog 28 true := ⟨Try.isAgg28⟩
instance byt_28 : Byt Try.prog 28 24 := ⟨fun w => ⟨_, Try.typeInfo28 w, rfl⟩⟩
instance zro_28 : Zro Try.prog 28 (.agg #[.pointer none, .pointer none, .pointer none]) := ⟨Try.zeroValue28⟩
instance und_29 : Und Try.prog 29 (.pointer 94) := ⟨Try.underlying29⟩
instance siz_29 : Siz Try.prog 29 1 := ⟨Try.sizeOf29⟩
instance agg_29 : Agg Try.prog 29 false := ⟨Try.isAgg29⟩
instance byt_29 : Byt Try.prog 29 8 := ⟨fun w => ⟨_, Try.typeInfo29 w, rfl⟩⟩
instance zro_29 : Zro Try.prog 29 (.pointer none) := ⟨Try.zeroValue29⟩
instance und_30 : Und Try.prog 30 (.array 3 29) := ⟨Try.underlying30⟩
instance siz_30 : Siz Try.prog 30 3 := ⟨Try.sizeOf30⟩
instance agg_30 : Agg Try.prog 30 true := ⟨Try.isAgg30⟩
instance byt_30 : Byt Try.prog 30 24 := ⟨fun w => ⟨_, Try.typeInfo30 w, rfl⟩⟩
instance zro_30 : Zro Try.prog 30 (.agg #[.pointer none, .pointer none, .pointer none]) := ⟨Try.zeroValue30⟩
instance und_31 : Und Try.prog 31 (.slice 119) := ⟨Try.underlying31⟩
instance siz_31 : Siz Try.prog 31 1 := ⟨Try.sizeOf31⟩
instance agg_31 : Agg Try.prog 31 false := ⟨Try.isAgg31⟩
instance byt_31 : Byt Try.prog 31 24 := ⟨fun w => ⟨_, Try.typeInfo31 w, rfl⟩⟩
instance zro_31 : Zro Try.prog 31 (.slice none 0 0) := ⟨Try.zeroValue31⟩
instance siz_33 : Siz Try.prog 33 8 := ⟨Try.sizeOf33⟩
instance agg_33 : Agg Try.prog 33 true := ⟨Try.isAgg33⟩
instance byt_33 : Byt Try.prog 33 80 := ⟨fun w => ⟨_, Try.typeInfo33 w, rfl⟩⟩
instance zro_33 : Zro Try.prog 33 (.agg #[.pointer none, .pointer none, .pointer none, .pointer none, .pointer none, .pointer none, .slice none 0 0, .int .i64 0]) := ⟨Try.zeroValue33⟩
instance und_35 : Und Try.prog 35 (.int .i64) := ⟨Try.underlying35⟩
instance siz_35 : Siz Try.prog 35 1 := ⟨Try.sizeOf35⟩
instance agg_35 : Agg Try.prog 35 false := ⟨Try.isAgg35⟩
instance byt_35 : Byt Try.prog 35 8 := ⟨fun w => ⟨_, Try.typeInfo35 w, rfl⟩⟩
instance zro_35 : Zro Try.prog 35 (.int .i64 0) := ⟨Try.zeroValue35⟩
instance und_42 : Und Try.prog 42 (.slice 46) := ⟨Try.underlying42⟩
instance siz_42 : Siz Try.prog 42 1 := ⟨Try.sizeOf42⟩
instance agg_42 : Agg Try.prog 42 false := ⟨Try.isAgg42⟩
instance byt_42 : Byt Try.prog 42 24 := ⟨fun w => ⟨_, Try.typeInfo42 w, rfl⟩⟩
instance zro_42 : Zro Try.prog 42 (.slice none 0 0) := ⟨Try.zeroValue42⟩
instance siz_46 : Siz Try.prog 46 9 := ⟨Try.sizeOf46⟩
instance agg_46 : Agg Try.prog 46 true := ⟨Try.isAgg46⟩
instance byt_46 : Byt Try.prog 46 120 := ⟨fun w => ⟨_, Try.typeInfo46 w, rfl⟩⟩
instance zro_46 : Zro Try.prog 46 (.agg #[.int .i64 0, .int .i64 0, .int .i64 0, .int .i64 0, .int .i64 0, .string ⟨#[]⟩, .string ⟨#[]⟩, .slice none 0 0, .slice none 0 0]) := ⟨Try.zeroValue46⟩
instance siz_49 : Siz Try.prog 49 4 := ⟨Try.sizeOf49⟩
instance agg_49 : Agg Try.prog 49 true := ⟨Try.isAgg49⟩
instance byt_49 : Byt Try.prog 49 48 := ⟨fun w => ⟨_, Try.typeInfo49 w, rfl⟩⟩
instance zro_49 : Zro Try.prog 49 (.agg #[.string ⟨#[]⟩, .string ⟨#[]⟩, .int .i64 0, .int .i64 0]) := ⟨Try.zeroValue49⟩
instance und_70 : Und Try.prog 70 (.slice 78) := ⟨Try.underlying70⟩
instance siz_70 : Siz Try.prog 70 1 := ⟨Try.sizeOf70⟩
instance agg_70 : Agg Try.prog 70 false := ⟨Try.isAgg70⟩
instance byt_70 : Byt Try.prog 70 24 := ⟨fun w => ⟨_, Try.typeInfo70 w, rfl⟩⟩
instance zro_70 : Zro Try.prog 70 (.slice none 0 0) := ⟨Try.zeroValue70⟩
instance und_71 : Und Try.prog 71 (.map 9 3) := ⟨Try.underlying71⟩
instance siz_71 : Siz Try.prog 71 1 := ⟨Try.sizeOf71⟩
instance agg_71 : Agg Try.prog 71 false := ⟨Try.isAgg71⟩
instance byt_71 : Byt Try.prog 71 8 := ⟨fun w => ⟨_, Try.typeInfo71 w, rfl⟩⟩
instance zro_71 : Zro Try.prog 71 (.map none) := ⟨Try.zeroValue71⟩
instance und_72 : Und Try.prog 72 (.map 3 3) := ⟨Try.underlying72⟩
instance siz_72 : Siz Try.prog 72 1 := ⟨Try.sizeOf72⟩
instance agg_72 : Agg Try.prog 72 false := ⟨Try.isAgg72⟩
instance byt_72 : Byt Try.prog 72 8 := ⟨fun w => ⟨_, Try.typeInfo72 w, rfl⟩⟩
instance zro_72 : Zro Try.prog 72 (.map none) := ⟨Try.zeroValue72⟩
instance siz_74 : Siz Try.prog 74 3 := ⟨Try.sizeOf74⟩
instance agg_74 : Agg Try.prog 74 true := ⟨Try.isAgg74⟩
instance byt_74 : Byt Try.prog 74 40 := ⟨fun w => ⟨_, Try.typeInfo74 w, rfl⟩⟩
instance zro_74 : Zro Try.prog 74 (.agg #[.slice none 0 0, .int .i64 0, .int .i64 0]) := ⟨Try.zeroValue74⟩
instance siz_76 : Siz Try.prog 76 7 := ⟨Try.sizeOf76⟩
instance agg_76 : Agg Try.prog 76 true := ⟨Try.isAgg76⟩
instance byt_76 : Byt Try.prog 76 88 := ⟨fun w => ⟨_, Try.typeInfo76 w, rfl⟩⟩
instance zro_76 : Zro Try.prog 76 (.agg #[.int .i64 0, .slice none 0 0, .map none, .map none, .slice none 0 0, .int .i64 0, .int .i64 0]) := ⟨Try.zeroValue76⟩
instance siz_78 : Siz Try.prog 78 5 := ⟨Try.sizeOf78⟩
instance agg_78 : Agg Try.prog 78 true := ⟨Try.isAgg78⟩
instance byt_78 : Byt Try.prog 78 56 := ⟨fun w => ⟨_, Try.typeInfo78 w, rfl⟩⟩
instance zro_78 : Zro Try.prog 78 (.agg #[.string ⟨#[]⟩, .string ⟨#[]⟩, .int .i64 0, .int .i64 0, .bool false]) := ⟨Try.zeroValue78⟩
instance siz_94 : Siz Try.prog 94 3 := ⟨Try.sizeOf94⟩
instance agg_94 : Agg Try.prog 94 true := ⟨Try.isAgg94⟩
instance byt_94 : Byt Try.prog 94 56 := ⟨fun w => ⟨_, Try.typeInfo94 w, rfl⟩⟩
instance zro_94 : Zro Try.prog 94 (.agg #[.int .i64 0, .slice none 0 0, .slice none 0 0]) := ⟨Try.zeroValue94⟩
instance und_95 : Und Try.prog 95 (.pointer 74) := ⟨Try.underlying95⟩
instance siz_95 : Siz Try.prog 95 1 := ⟨Try.sizeOf95⟩
instance agg_95 : Agg Try.prog 95 false := ⟨Try.isAgg95⟩
instance byt_95 : Byt Try.prog 95 8 := ⟨fun w => ⟨_, Try.typeInfo95 w, rfl⟩⟩
instance zro_95 : Zro Try.prog 95 (.pointer none) := ⟨Try.zeroValue95⟩
instance siz_119 : Siz Try.prog 119 8 := ⟨Try.sizeOf119⟩
instance agg_119 : Agg Try.prog 119 true := ⟨Try.isAgg119⟩
instance byt_119 : Byt Try.prog 119 192 := ⟨fun w => ⟨_, Try.typeInfo119 w, rfl⟩⟩
instance zro_119 : Zro Try.prog 119 (.agg #[.slice none 0 0, .slice none 0 0, .slice none 0 0, .slice none 0 0, .slice none 0 0, .slice none 0 0, .slice none 0 0, .slice none 0 0]) := ⟨Try.zeroValue119⟩
instance strT_49 : StrT Try.prog 49 [(9, 0), (9, 1), (3, 2), (3, 3)] := ⟨_, Try.underlying49, Try.stoodInHeld49, Try.eqGuardType49, rfl, by decide⟩
instance foff_25_0 : FOff Try.prog 25 0 0 := fOff_of (n := 0) Try.underlying25 rfl Try.sizeOf22 rfl
instance foff_25_1 : FOff Try.prog 25 1 1 := fOff_of (n := 0) Try.underlying25 rfl Try.sizeOf23 rfl
instance foff_33_0 : FOff Try.prog 33 0 0 := fOff_of (n := 2) Try.underlying33 rfl Try.sizeOf28 rfl
instance foff_33_1 : FOff Try.prog 33 1 3 := fOff_of (n := 2) Try.underlying33 rfl Try.sizeOf30 rfl
instance foff_46_0 : FOff Try.prog 46 0 0 := fOff_of (n := 0) Try.underlying46 rfl Try.sizeOf3 rfl
instance foff_46_2 : FOff Try.prog 46 2 2 := fOff_of (n := 0) Try.underlying46 rfl Try.sizeOf3 rfl
instance foff_46_3 : FOff Try.prog 46 3 3 := fOff_of (n := 0) Try.underlying46 rfl Try.sizeOf3 rfl
instance foff_46_4 : FOff Try.prog 46 4 4 := fOff_of (n := 0) Try.underlying46 rfl Try.sizeOf3 rfl
instance foff_46_5 : FOff Try.prog 46 5 5 := fOff_of (n := 0) Try.underlying46 rfl Try.sizeOf9 rfl
instance foff_46_6 : FOff Try.prog 46 6 6 := fOff_of (n := 0) Try.underlying46 rfl Try.sizeOf9 rfl
instance foff_49_0 : FOff Try.prog 49 0 0 := fOff_of (n := 0) Try.underlying49 rfl Try.sizeOf9 rfl
instance foff_49_1 : FOff Try.prog 49 1 1 := fOff_of (n := 0) Try.underlying49 rfl Try.sizeOf9 rfl
instance foff_49_2 : FOff Try.prog 49 2 2 := fOff_of (n := 0) Try.underlying49 rfl Try.sizeOf3 rfl
instance foff_49_3 : FOff Try.prog 49 3 3 := fOff_of (n := 0) Try.underlying49 rfl Try.sizeOf3 rfl
instance foff_74_0 : FOff Try.prog 74 0 0 := fOff_of (n := 0) Try.underlying74 rfl Try.sizeOf23 rfl
instance foff_74_1 : FOff Try.prog 74 1 1 := fOff_of (n := 0) Try.underlying74 rfl Try.sizeOf3 rfl
instance foff_74_2 : FOff Try.prog 74 2 2 := fOff_of (n := 0) Try.underlying74 rfl Try.sizeOf3 rfl
instance foff_76_0 : FOff Try.prog 76 0 0 := fOff_of (n := 0) Try.underlying76 rfl Try.sizeOf3 rfl
instance foff_76_1 : FOff Try.prog 76 1 1 := fOff_of (n := 0) Try.underlying76 rfl Try.sizeOf70 rfl
instance foff_76_2 : FOff Try.prog 76 2 2 := fOff_of (n := 0) Try.underlying76 rfl Try.sizeOf71 rfl
instance foff_76_3 : FOff Try.prog 76 3 3 := fOff_of (n := 0) Try.underlying76 rfl Try.sizeOf72 rfl
instance foff_76_4 : FOff Try.prog 76 4 4 := fOff_of (n := 2) Try.underlying76 rfl Try.sizeOf74 rfl
instance foff_78_0 : FOff Try.prog 78 0 0 := fOff_of (n := 3) Try.underlying78 rfl Try.sizeOf49 rfl
instance foff_78_1 : FOff Try.prog 78 1 4 := fOff_of (n := 0) Try.underlying78 rfl Try.sizeOf4 rfl
instance fval_25_1 : FVal Try.prog 25 1 1 none := fVal_one Try.underlying25 rfl Try.isAgg23 rfl
instance btab_25 : BTab Try.prog 25 [.slice none 0 0, .slice none 0 0] [(0, 1), (1, 1)] := ⟨fun parts w => by simp [Instr.build]; exact run_fill (fillP _ _ parts.toList)⟩
instance btab_33 : BTab Try.prog 33 [.pointer none, .pointer none, .pointer none, .pointer none, .pointer none, .pointer none, .slice none 0 0, .int .i64 0] [(0, 3), (3, 3), (6, 1), (7, 1)] := ⟨fun parts w => by simp [Instr.build]; exact run_fill (fillP _ _ parts.toList)⟩
instance btab_49 : BTab Try.prog 49 [.string ⟨#[]⟩, .string ⟨#[]⟩, .int .i64 0, .int .i64 0] [(0, 1), (1, 1), (2, 1), (3, 1)] := ⟨fun parts w => by simp [Instr.build]; exact run_fill (fillP _ _ parts.toList)⟩
instance btab_74 : BTab Try.prog 74 [.slice none 0 0, .int .i64 0, .int .i64 0] [(0, 1), (1, 1), (2, 1)] := ⟨fun parts w => by simp [Instr.build]; exact run_fill (fillP _ _ parts.toList)⟩
instance btab_76 : BTab Try.prog 76 [.int .i64 0, .slice none 0 0, .map none, .map none, .slice none 0 0, .int .i64 0, .int .i64 0] [(0, 1), (1, 1), (2, 1), (3, 1), (4, 3)] := ⟨fun parts w => by simp [Instr.build]; exact run_fill (fillP _ _ parts.toList)⟩
instance btab_78 : BTab Try.prog 78 [.string ⟨#[]⟩, .string ⟨#[]⟩, .int .i64 0, .int .i64 0, .bool false] [(0, 4), (4, 1)] := ⟨fun parts w => by simp [Instr.build]; exact run_fill (fillP _ _ parts.toList)⟩
instance btab_94 : BTab Try.prog 94 [.int .i64 0, .slice none 0 0, .slice none 0 0] [(0, 1), (1, 1), (2, 1)] := ⟨fun parts w => by simp [Instr.build]; exact run_fill (fillP _ _ parts.toList)⟩
instance callee_2 : Callee Try.prog 2 := ⟨Try.call2⟩
instance callee_3 : Callee Try.prog 3 := ⟨Try.call3⟩
instance callee_4 : Callee Try.prog 4 := ⟨Try.call4⟩
instance callee_5 : Callee Try.prog 5 := ⟨Try.call5⟩
instance callee_6 : Callee Try.prog 6 := ⟨Try.call6⟩
instance callee_7 : Callee Try.prog 7 := ⟨Try.call7⟩
instance callee_8 : Callee Try.prog 8 := ⟨Try.call8⟩
instance callee_9 : Callee Try.prog 9 := ⟨Try.call9⟩
instance callee_10 : Callee Try.prog 10 := ⟨Try.call10⟩
instance callee_11 : Callee Try.prog 11 := ⟨Try.call11⟩
instance callee_12 : Callee Try.prog 12 := ⟨Try.call12⟩
instance callee_13 : Callee Try.prog 13 := ⟨Try.call13⟩
instance callee_14 : Callee Try.prog 14 := ⟨Try.call14⟩
instance callee_15 : Callee Try.prog 15 := ⟨Try.call15⟩
instance callee_16 : Callee Try.prog 16 := ⟨Try.call16⟩
instance callee_17 : Callee Try.prog 17 := ⟨Try.call17⟩
instance callee_18 : Callee Try.prog 18 := ⟨Try.call18⟩
instance callee_19 : Callee Try.prog 19 := ⟨Try.call19⟩
instance callee_20 : Callee Try.prog 20 := ⟨Try.call20⟩
instance callee_21 : Callee Try.prog 21 := ⟨Try.call21⟩
instance callee_22 : Callee Try.prog 22 := ⟨Try.call22⟩
instance callee_23 : Callee Try.prog 23 := ⟨Try.call23⟩
instance callee_24 : Callee Try.prog 24 := ⟨Try.call24⟩
instance callee_25 : Callee Try.prog 25 := ⟨Try.call25⟩
instance callee_26 : Callee Try.prog 26 := ⟨Try.call26⟩
instance callee_27 : Callee Try.prog 27 := ⟨Try.call27⟩
instance callee_28 : Callee Try.prog 28 := ⟨Try.call28⟩
instance callee_29 : Callee Try.prog 29 := ⟨Try.call29⟩
instance callee_30 : Callee Try.prog 30 := ⟨Try.call30⟩
instance callee_31 : Callee Try.prog 31 := ⟨Try.call31⟩
instance callee_32 : Callee Try.prog 32 := ⟨Try.call32⟩
instance callee_33 : Callee Try.prog 33 := ⟨Try.call33⟩
instance callee_34 : Callee Try.prog 34 := ⟨Try.call34⟩
instance callee_35 : Callee Try.prog 35 := ⟨Try.call35⟩
instance callee_36 : Callee Try.prog 36 := ⟨Try.call36⟩
instance callee_37 : Callee Try.prog 37 := ⟨Try.call37⟩
instance callee_38 : Callee Try.prog 38 := ⟨Try.call38⟩
instance callee_39 : Callee Try.prog 39 := ⟨Try.call39⟩
instance callee_40 : Callee Try.prog 40 := ⟨Try.call40⟩
instance callee_41 : Callee Try.prog 41 := ⟨Try.call41⟩
instance callee_42 : Callee Try.prog 42 := ⟨Try.call42⟩
instance callee_43 : Callee Try.prog 43 := ⟨Try.call43⟩
instance callee_44 : Callee Try.prog 44 := ⟨Try.call44⟩
instance callee_45 : Callee Try.prog 45 := ⟨Try.call45⟩
instance callee_46 : Callee Try.prog 46 := ⟨Try.call46⟩
instance callee_47 : Callee Try.prog 47 := ⟨Try.call47⟩
instance callee_48 : Callee Try.prog 48 := ⟨Try.call48⟩
instance callee_50 : Callee Try.prog 50 := ⟨Try.call50⟩
instance callee_51 : Callee Try.prog 51 := ⟨Try.call51⟩
instance callee_52 : Callee Try.prog 52 := ⟨Try.call52⟩
instance callee_53 : Callee Try.prog 53 := ⟨Try.call53⟩
instance callee_54 : Callee Try.prog 54 := ⟨Try.call54⟩
instance callee_55 : Callee Try.prog 55 := ⟨Try.call55⟩
instance resT_2 : ResT Try.f2 [] := ⟨rfl⟩
instance resT_3 : ResT Try.f3 [6] := ⟨rfl⟩
instance resT_4 : ResT Try.f4 [8] := ⟨rfl⟩
instance resT_5 : ResT Try.f5 [10] := ⟨rfl⟩
instance resT_6 : ResT Try.f6 [6] := ⟨rfl⟩
instance resT_7 : ResT Try.f7 [10] := ⟨rfl⟩
instance resT_8 : ResT Try.f8 [4, 5] := ⟨rfl⟩
instance resT_9 : ResT Try.f9 [2] := ⟨rfl⟩
instance resT_10 : ResT Try.f10 [4] := ⟨rfl⟩
instance resT_12 : ResT Try.f12 [4] := ⟨rfl⟩
instance resT_13 : ResT Try.f13 [] := ⟨rfl⟩
instance resT_14 : ResT Try.f14 [2] := ⟨rfl⟩
instance resT_16 : ResT Try.f16 [4] := ⟨rfl⟩
instance resT_17 : ResT Try.f17 [2, 3] := ⟨rfl⟩
instance resT_18 : ResT Try.f18 [6] := ⟨rfl⟩
instance resT_19 : ResT Try.f19 [4] := ⟨rfl⟩
instance resT_20 : ResT Try.f20 [2] := ⟨rfl⟩
instance resT_21 : ResT Try.f21 [6] := ⟨rfl⟩
instance resT_22 : ResT Try.f22 [6] := ⟨rfl⟩
instance resT_23 : ResT Try.f23 [4] := ⟨rfl⟩
instance resT_24 : ResT Try.f24 [6, 7] := ⟨rfl⟩
instance resT_25 : ResT Try.f25 [2] := ⟨rfl⟩
instance resT_26 : ResT Try.f26 [2] := ⟨rfl⟩
instance resT_27 : ResT Try.f27 [6, 7] := ⟨rfl⟩
instance resT_28 : ResT Try.f28 [4] := ⟨rfl⟩
instance resT_29 : ResT Try.f29 [4] := ⟨rfl⟩
instance resT_30 : ResT Try.f30 [4] := ⟨rfl⟩
instance resT_31 : ResT Try.f31 [2] := ⟨rfl⟩
instance resT_32 : ResT Try.f32 [] := ⟨rfl⟩
instance resT_33 : ResT Try.f33 [2] := ⟨rfl⟩
instance resT_34 : ResT Try.f34 [10] := ⟨rfl⟩
instance resT_35 : ResT Try.f35 [4] := ⟨rfl⟩
instance resT_36 : ResT Try.f36 [4] := ⟨rfl⟩
instance resT_37 : ResT Try.f37 [2, 3] := ⟨rfl⟩
instance resT_38 : ResT Try.f38 [2] := ⟨rfl⟩
instance resT_39 : ResT Try.f39 [2] := ⟨rfl⟩
instance resT_40 : ResT Try.f40 [2] := ⟨rfl⟩
instance resT_42 : ResT Try.f42 [4, 5] := ⟨rfl⟩
instance resT_43 : ResT Try.f43 [4, 5] := ⟨rfl⟩
instance resT_44 : ResT Try.f44 [4] := ⟨rfl⟩
instance resT_45 : ResT Try.f45 [4] := ⟨rfl⟩
instance resT_46 : ResT Try.f46 [2] := ⟨rfl⟩
instance resT_47 : ResT Try.f47 [2] := ⟨rfl⟩
instance resT_48 : ResT Try.f48 [2] := ⟨rfl⟩
instance resT_50 : ResT Try.f50 [2] := ⟨rfl⟩
instance resT_51 : ResT Try.f51 [4] := ⟨rfl⟩
instance resT_52 : ResT Try.f52 [6] := ⟨rfl⟩
instance resT_53 : ResT Try.f53 [6] := ⟨rfl⟩
instance resT_54 : ResT Try.f54 [6] := ⟨rfl⟩
instance resT_55 : ResT Try.f55 [2] := ⟨rfl⟩
instance resC_11 : ResC Try.f11 2 25 := ⟨rfl⟩
instance resC_41 : ResC Try.f41 2 74 := ⟨rfl⟩
instance cloneF_49 : CloneF Try.prog 49 := cloneF_of (fn := Try.f49) rfl (by kernel_rfl) rfl (by kernel_rfl) (by kernel_rfl)
instance resL_11 : ResL Try.f11 [.cell 2 25] := ⟨rfl⟩
instance resL_15 : ResL Try.f15 [.cell 4 49, .tmp 5] := ⟨rfl⟩
instance resL_41 : ResL Try.f41 [.cell 2 74] := ⟨rfl⟩
instance natIdx_c2 : NatIdx 2 2 := ⟨rfl⟩
instance natIdx_c10 : NatIdx 10 10 := ⟨rfl⟩
instance natIdx_c11 : NatIdx 11 11 := ⟨rfl⟩
instance natIdx_c12 : NatIdx 12 12 := ⟨rfl⟩
instance natIdx_c13 : NatIdx 13 13 := ⟨rfl⟩
instance natIdx_c14 : NatIdx 14 14 := ⟨rfl⟩
instance natIdx_c16 : NatIdx 16 16 := ⟨rfl⟩
instance natIdx_c40 : NatIdx 40 40 := ⟨rfl⟩
instance natIdx_c64 : NatIdx 64 64 := ⟨rfl⟩
instance natIdx_c130 : NatIdx 130 130 := ⟨rfl⟩
instance natIdx_c131 : NatIdx 131 131 := ⟨rfl⟩
instance natIdx_c132 : NatIdx 132 132 := ⟨rfl⟩
instance natIdx_c65536 : NatIdx 65536 65536 := ⟨rfl⟩
instance natIdx_c1048576 : NatIdx 1048576 1048576 := ⟨rfl⟩
theorem mixed : Try.prog.follows .mixedOrders = true := by kernel_rfl
end Go.Proofs.Ytjmicpkinflofaa.S
