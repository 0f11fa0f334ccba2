/- What the program's tables say of its types and functions. Printed by wip/stab.py of this session; Lean checks it. -/
import Derived.Test.YtcoohckdnefacaaDoorS12
import Derived.Test.YtcoohckdnefacaaDoorProg
namespace Go.Proofs.YtcoohckdnefacaaDoor.S
set_option linter.unusedVariables false

instance und_2 : Und Tryd.prog 2 (.int .i64) := ⟨Tryd.underlying2⟩
instance siz_2 : Siz Tryd.prog 2 1 := ⟨Tryd.sizeOf2⟩
instance agg_2 : Agg Tryd.prog 2 false := ⟨Tryd.isAgg2⟩
instance byt_2 : Byt Tryd.prog 2 8 := ⟨fun w => ⟨_, Tryd.typeInfo2 w, rfl⟩⟩
instance zro_2 : Zro Tryd.prog 2 (.int .i64 0) := ⟨Tryd.zeroValue2⟩
instance und_3 : Und Tryd.prog 3 (.int .i64) := ⟨Tryd.underlying3⟩
instance siz_3 : Siz Tryd.prog 3 1 := ⟨Tryd.sizeOf3⟩
instance agg_3 : Agg Tryd.prog 3 false := ⟨Tryd.isAgg3⟩
instance byt_3 : Byt Tryd.prog 3 8 := ⟨fun w => ⟨_, Tryd.typeInfo3 w, rfl⟩⟩
instance zro_3 : Zro Tryd.prog 3 (.int .i64 0) := ⟨Tryd.zeroValue3⟩
instance und_4 : Und Tryd.prog 4 (.bool) := ⟨Tryd.underlying4⟩
instance siz_4 : Siz Tryd.prog 4 1 := ⟨Tryd.sizeOf4⟩
instance agg_4 : Agg Tryd.prog 4 false := ⟨Tryd.isAgg4⟩
instance byt_4 : Byt Tryd.prog 4 1 := ⟨fun w => ⟨_, Tryd.typeInfo4 w, rfl⟩⟩
instance zro_4 : Zro Tryd.prog 4 (.bool false) := ⟨Tryd.zeroValue4⟩
instance und_5 : Und Tryd.prog 5 (.int .u8) := ⟨Tryd.underlying5⟩
instance siz_5 : Siz Tryd.prog 5 1 := ⟨Tryd.sizeOf5⟩
instance agg_5 : Agg Tryd.prog 5 false := ⟨Tryd.isAgg5⟩
instance byt_5 : Byt Tryd.prog 5 1 := ⟨fun w => ⟨_, Tryd.typeInfo5 w, rfl⟩⟩
instance zro_5 : Zro Tryd.prog 5 (.int .u8 0) := ⟨Tryd.zeroValue5⟩
instance und_9 : Und Tryd.prog 9 (.string) := ⟨Tryd.underlying9⟩
instance siz_9 : Siz Tryd.prog 9 1 := ⟨Tryd.sizeOf9⟩
instance agg_9 : Agg Tryd.prog 9 false := ⟨Tryd.isAgg9⟩
instance byt_9 : Byt Tryd.prog 9 16 := ⟨fun w => ⟨_, Tryd.typeInfo9 w, rfl⟩⟩
instance zro_9 : Zro Tryd.prog 9 (.string ⟨#[]⟩) := ⟨Tryd.zeroValue9⟩
instance und_22 : Und Tryd.prog 22 (.slice 40) := ⟨Tryd.underlying22⟩
instance siz_22 : Siz Tryd.prog 22 1 := ⟨Tryd.sizeOf22⟩
instance agg_22 : Agg Tryd.prog 22 false := ⟨Tryd.isAgg22⟩
instance byt_22 : Byt Tryd.prog 22 24 := ⟨fun w => ⟨_, Tryd.typeInfo22 w, rfl⟩⟩
instance zro_22 : Zro Tryd.prog 22 (.slice none 0 0) := ⟨Tryd.zeroValue22⟩
instance und_23 : Und Tryd.prog 23 (.slice 47) := ⟨Tryd.underlying23⟩
instance siz_23 : Siz Tryd.prog 23 1 := ⟨Tryd.sizeOf23⟩
instance agg_23 : Agg Tryd.prog 23 false := ⟨Tryd.isAgg23⟩
instance byt_23 : Byt Tryd.prog 23 24 := ⟨fun w => ⟨_, Tryd.typeInfo23 w, rfl⟩⟩
instance zro_23 : Zro Tryd.prog 23 (.slice none 0 0) := ⟨Tryd.zeroValue23⟩
instance siz_25 : Siz Tryd.prog 25 2 := ⟨Tryd.sizeOf25⟩
instance agg_25 : Agg Tryd.prog 25 true := ⟨Tryd.isAgg25⟩
instance byt_25 : Byt Tryd.prog 25 48 := ⟨fun w => ⟨_, Tryd.typeInfo25 w, rfl⟩⟩
instance zro_25 : Zro Tryd.prog 25 (.agg #[.slice none 0 0, .slice none 0 0]) := ⟨Tryd.zeroValue25⟩
instance und_26 : Und Tryd.prog 26 (.slice 9) := ⟨Tryd.underlying26⟩
instance siz_26 : Siz Tryd.prog 26 1 := ⟨Tryd.sizeOf26⟩
instance agg_26 : Agg Tryd.prog 26 false := ⟨Tryd.isAgg26⟩
instance byt_26 : Byt Tryd.prog 26 24 := ⟨fun w => ⟨_, Tryd.typeInfo26 w, rfl⟩⟩
instance zro_26 : Zro Tryd.prog 26 (.slice none 0 0) := ⟨Tryd.zeroValue26⟩
instance und_28 : Und Tryd.prog 28 (.slice 45) := ⟨Tryd.underlying28⟩
instance siz_28 : Siz Tryd.prog 28 1 := ⟨Tryd.sizeOf28⟩
instance agg_28 : Agg Tryd.prog 28 false := ⟨Tryd.isAgg28⟩
instance byt_28 : Byt Tryd.prog 28 24 := ⟨fun w => ⟨_, Tryd.typeInfo28 w, rfl⟩⟩
instance zro_28 : Zro Tryd.prog 28 (.slice none 0 0) := ⟨Tryd.zeroValue28⟩
instance siz_30 : Siz Tryd.prog 30 2 := ⟨Tryd.sizeOf30⟩
instance agg_30 : Agg Tryd.prog 30 true := ⟨Tryd.isAgg30⟩
instance byt_30 : Byt Tryd.prog 30 48 := ⟨fun w => ⟨_, Tryd.typeInfo30 w, rfl⟩⟩
instance zro_30 : Zro Tryd.prog 30 (.agg #[.slice none 0 0, .slice none 0 0]) := ⟨Tryd.zeroValue30⟩
instance siz_40 : Siz Tryd.prog 40 4 := ⟨Tryd.sizeOf40⟩
instance agg_40 : Agg Tryd.prog 40 true := ⟨Tryd.isAgg40⟩
instance byt_40 : Byt Tryd.prog 40 32 := ⟨fun w => ⟨_, Tryd.typeInfo40 w, rfl⟩⟩
instance zro_40 : Zro Tryd.prog 40 (.agg #[.int .i64 0, .int .i64 0, .int .i64 0, .int .i64 0]) := ⟨Tryd.zeroValue40⟩
instance siz_42 : Siz Tryd.prog 42 7 := ⟨Tryd.sizeOf42⟩
instance agg_42 : Agg Tryd.prog 42 true := ⟨Tryd.isAgg42⟩
instance byt_42 : Byt Tryd.prog 42 64 := ⟨fun w => ⟨_, Tryd.typeInfo42 w, rfl⟩⟩
instance zro_42 : Zro Tryd.prog 42 (.agg #[.int .i64 0, .int .i64 0, .int .i64 0, .int .i64 0, .int .i64 0, .string ⟨#[]⟩, .int .i64 0]) := ⟨Tryd.zeroValue42⟩
instance und_43 : Und Tryd.prog 43 (.int .i64) := ⟨Tryd.underlying43⟩
instance siz_43 : Siz Tryd.prog 43 1 := ⟨Tryd.sizeOf43⟩
instance agg_43 : Agg Tryd.prog 43 false := ⟨Tryd.isAgg43⟩
instance byt_43 : Byt Tryd.prog 43 8 := ⟨fun w => ⟨_, Tryd.typeInfo43 w, rfl⟩⟩
instance zro_43 : Zro Tryd.prog 43 (.int .i64 0) := ⟨Tryd.zeroValue43⟩
instance siz_45 : Siz Tryd.prog 45 6 := ⟨Tryd.sizeOf45⟩
instance agg_45 : Agg Tryd.prog 45 true := ⟨Tryd.isAgg45⟩
instance byt_45 : Byt Tryd.prog 45 72 := ⟨fun w => ⟨_, Tryd.typeInfo45 w, rfl⟩⟩
instance zro_45 : Zro Tryd.prog 45 (.agg #[.int .i64 0, .string ⟨#[]⟩, .int .i64 0, .slice none 0 0, .int .i64 0, .int .i64 0]) := ⟨Tryd.zeroValue45⟩
instance siz_47 : Siz Tryd.prog 47 13 := ⟨Tryd.sizeOf47⟩
instance agg_47 : Agg Tryd.prog 47 true := ⟨Tryd.isAgg47⟩
instance byt_47 : Byt Tryd.prog 47 136 := ⟨fun w => ⟨_, Tryd.typeInfo47 w, rfl⟩⟩
instance zro_47 : Zro Tryd.prog 47 (.agg #[.int .i64 0, .string ⟨#[]⟩, .int .i64 0, .slice none 0 0, .int .i64 0, .int .i64 0, .int .i64 0, .int .i64 0, .int .i64 0, .int .i64 0, .int .i64 0, .string ⟨#[]⟩, .int .i64 0]) := ⟨Tryd.zeroValue47⟩
instance und_51 : Und Tryd.prog 51 (.slice 74) := ⟨Tryd.underlying51⟩
instance siz_51 : Siz Tryd.prog 51 1 := ⟨Tryd.sizeOf51⟩
instance agg_51 : Agg Tryd.prog 51 false := ⟨Tryd.isAgg51⟩
instance byt_51 : Byt Tryd.prog 51 24 := ⟨fun w => ⟨_, Tryd.typeInfo51 w, rfl⟩⟩
instance zro_51 : Zro Tryd.prog 51 (.slice none 0 0) := ⟨Tryd.zeroValue51⟩
instance und_65 : Und Tryd.prog 65 (.slice 5) := ⟨Tryd.underlying65⟩
instance siz_65 : Siz Tryd.prog 65 1 := ⟨Tryd.sizeOf65⟩
instance agg_65 : Agg Tryd.prog 65 false := ⟨Tryd.isAgg65⟩
instance byt_65 : Byt Tryd.prog 65 24 := ⟨fun w => ⟨_, Tryd.typeInfo65 w, rfl⟩⟩
instance zro_65 : Zro Tryd.prog 65 (.slice none 0 0) := ⟨Tryd.zeroValue65⟩
instance und_66 : Und Tryd.prog 66 (.pointer 80) := ⟨Tryd.underlying66⟩
instance siz_66 : Siz Tryd.prog 66 1 := ⟨Tryd.sizeOf66⟩
instance agg_66 : Agg Tryd.prog 66 false := ⟨Tryd.isAgg66⟩
instance byt_66 : Byt Tryd.prog 66 8 := ⟨fun w => ⟨_, Tryd.typeInfo66 w, rfl⟩⟩
instance zro_66 : Zro Tryd.prog 66 (.pointer none) := ⟨Tryd.zeroValue66⟩
instance siz_74 : Siz Tryd.prog 74 2 := ⟨Tryd.sizeOf74⟩
instance agg_74 : Agg Tryd.prog 74 true := ⟨Tryd.isAgg74⟩
instance byt_74 : Byt Tryd.prog 74 24 := ⟨fun w => ⟨_, Tryd.typeInfo74 w, rfl⟩⟩
instance zro_74 : Zro Tryd.prog 74 (.agg #[.int .i64 0, .string ⟨#[]⟩]) := ⟨Tryd.zeroValue74⟩
instance und_78 : Und Tryd.prog 78 (.map 3 65) := ⟨Tryd.underlying78⟩
instance siz_78 : Siz Tryd.prog 78 1 := ⟨Tryd.sizeOf78⟩
instance agg_78 : Agg Tryd.prog 78 false := ⟨Tryd.isAgg78⟩
instance byt_78 : Byt Tryd.prog 78 8 := ⟨fun w => ⟨_, Tryd.typeInfo78 w, rfl⟩⟩
instance zro_78 : Zro Tryd.prog 78 (.map none) := ⟨Tryd.zeroValue78⟩
instance siz_80 : Siz Tryd.prog 80 1 := ⟨Tryd.sizeOf80⟩
instance agg_80 : Agg Tryd.prog 80 true := ⟨Tryd.isAgg80⟩
instance byt_80 : Byt Tryd.prog 80 8 := ⟨fun w => ⟨_, Tryd.typeInfo80 w, rfl⟩⟩
instance zro_80 : Zro Tryd.prog 80 (.agg #[.map none]) := ⟨Tryd.zeroValue80⟩
instance und_82 : Und Tryd.prog 82 (.slice 86) := ⟨Tryd.underlying82⟩
instance siz_82 : Siz Tryd.prog 82 1 := ⟨Tryd.sizeOf82⟩
instance agg_82 : Agg Tryd.prog 82 false := ⟨Tryd.isAgg82⟩
instance byt_82 : Byt Tryd.prog 82 24 := ⟨fun w => ⟨_, Tryd.typeInfo82 w, rfl⟩⟩
instance zro_82 : Zro Tryd.prog 82 (.slice none 0 0) := ⟨Tryd.zeroValue82⟩
instance siz_84 : Siz Tryd.prog 84 1 := ⟨Tryd.sizeOf84⟩
instance agg_84 : Agg Tryd.prog 84 false := ⟨Tryd.isAgg84⟩
instance byt_84 : Byt Tryd.prog 84 8 := ⟨fun w => ⟨_, Tryd.typeInfo84 w, rfl⟩⟩
instance zro_84 : Zro Tryd.prog 84 (.nilFunc) := ⟨Tryd.zeroValue84⟩
instance siz_86 : Siz Tryd.prog 86 2 := ⟨Tryd.sizeOf86⟩
instance agg_86 : Agg Tryd.prog 86 true := ⟨Tryd.isAgg86⟩
instance byt_86 : Byt Tryd.prog 86 16 := ⟨fun w => ⟨_, Tryd.typeInfo86 w, rfl⟩⟩
instance zro_86 : Zro Tryd.prog 86 (.agg #[.bool false, .nilFunc]) := ⟨Tryd.zeroValue86⟩
instance und_90 : Und Tryd.prog 90 (.array 24 5) := ⟨Tryd.underlying90⟩
instance siz_90 : Siz Tryd.prog 90 24 := ⟨Tryd.sizeOf90⟩
instance agg_90 : Agg Tryd.prog 90 true := ⟨Tryd.isAgg90⟩
instance byt_90 : Byt Tryd.prog 90 24 := ⟨fun w => ⟨_, Tryd.typeInfo90 w, rfl⟩⟩
instance zro_90 : Zro Tryd.prog 90 (.agg #[.int .u8 0, .int .u8 0, .int .u8 0, .int .u8 0, .int .u8 0, .int .u8 0, .int .u8 0, .int .u8 0, .int .u8 0, .int .u8 0, .int .u8 0, .int .u8 0, .int .u8 0, .int .u8 0, .int .u8 0, .int .u8 0, .int .u8 0, .int .u8 0, .int .u8 0, .int .u8 0, .int .u8 0, .int .u8 0, .int .u8 0, .int .u8 0]) := ⟨Tryd.zeroValue90⟩
instance und_91 : Und Tryd.prog 91 (.int .u64) := ⟨Tryd.underlying91⟩
instance siz_91 : Siz Tryd.prog 91 1 := ⟨Tryd.sizeOf91⟩
instance agg_91 : Agg Tryd.prog 91 false := ⟨Tryd.isAgg91⟩
instance byt_91 : Byt Tryd.prog 91 8 := ⟨fun w => ⟨_, Tryd.typeInfo91 w, rfl⟩⟩
instance zro_91 : Zro Tryd.prog 91 (.int .u64 0) := ⟨Tryd.zeroValue91⟩
instance und_100 : Und Tryd.prog 100 (.array 20 91) := ⟨Tryd.underlying100⟩
instance siz_100 : Siz Tryd.prog 100 20 := ⟨Tryd.sizeOf100⟩
instance agg_100 : Agg Tryd.prog 100 true := ⟨Tryd.isAgg100⟩
instance byt_100 : Byt Tryd.prog 100 160 := ⟨fun w => ⟨_, Tryd.typeInfo100 w, rfl⟩⟩
instance zro_100 : Zro Tryd.prog 100 (.agg #[.int .u64 0, .int .u64 0, .int .u64 0, .int .u64 0, .int .u64 0, .int .u64 0, .int .u64 0, .int .u64 0, .int .u64 0, .int .u64 0, .int .u64 0, .int .u64 0, .int .u64 0, .int .u64 0, .int .u64 0, .int .u64 0, .int .u64 0, .int .u64 0, .int .u64 0, .int .u64 0]) := ⟨Tryd.zeroValue100⟩
instance und_101 : Und Tryd.prog 101 (.int .u32) := ⟨Tryd.underlying101⟩
instance siz_101 : Siz Tryd.prog 101 1 := ⟨Tryd.sizeOf101⟩
instance agg_101 : Agg Tryd.prog 101 false := ⟨Tryd.isAgg101⟩
instance byt_101 : Byt Tryd.prog 101 4 := ⟨fun w => ⟨_, Tryd.typeInfo101 w, rfl⟩⟩
instance zro_101 : Zro Tryd.prog 101 (.int .u32 0) := ⟨Tryd.zeroValue101⟩
instance und_102 : Und Tryd.prog 102 (.array 65 5) := ⟨Tryd.underlying102⟩
instance siz_102 : Siz Tryd.prog 102 65 := ⟨Tryd.sizeOf102⟩
instance agg_102 : Agg Tryd.prog 102 true := ⟨Tryd.isAgg102⟩
instance byt_102 : Byt Tryd.prog 102 65 := ⟨fun w => ⟨_, Tryd.typeInfo102 w, rfl⟩⟩
instance und_104 : Und Tryd.prog 104 (.int .u64) := ⟨Tryd.underlying104⟩
instance siz_104 : Siz Tryd.prog 104 1 := ⟨Tryd.sizeOf104⟩
instance agg_104 : Agg Tryd.prog 104 false := ⟨Tryd.isAgg104⟩
instance byt_104 : Byt Tryd.prog 104 8 := ⟨fun w => ⟨_, Tryd.typeInfo104 w, rfl⟩⟩
instance zro_104 : Zro Tryd.prog 104 (.int .u64 0) := ⟨Tryd.zeroValue104⟩
instance und_107 : Und Tryd.prog 107 (.array 32 5) := ⟨Tryd.underlying107⟩
instance siz_107 : Siz Tryd.prog 107 32 := ⟨Tryd.sizeOf107⟩
instance agg_107 : Agg Tryd.prog 107 true := ⟨Tryd.isAgg107⟩
instance byt_107 : Byt Tryd.prog 107 32 := ⟨fun w => ⟨_, Tryd.typeInfo107 w, rfl⟩⟩
instance zro_107 : Zro Tryd.prog 107 (.agg #[.int .u8 0, .int .u8 0, .int .u8 0, .int .u8 0, .int .u8 0, .int .u8 0, .int .u8 0, .int .u8 0, .int .u8 0, .int .u8 0, .int .u8 0, .int .u8 0, .int .u8 0, .int .u8 0, .int .u8 0, .int .u8 0, .int .u8 0, .int .u8 0, .int .u8 0, .int .u8 0, .int .u8 0, .int .u8 0, .int .u8 0, .int .u8 0, .int .u8 0, .int .u8 0, .int .u8 0, .int .u8 0, .int .u8 0, .int .u8 0, .int .u8 0, .int .u8 0]) := ⟨Tryd.zeroValue107⟩
instance und_108 : Und Tryd.prog 108 (.array 64 5) := ⟨Tryd.underlying108⟩
instance siz_108 : Siz Tryd.prog 108 64 := ⟨Tryd.sizeOf108⟩
instance agg_108 : Agg Tryd.prog 108 true := ⟨Tryd.isAgg108⟩
instance byt_108 : Byt Tryd.prog 108 64 := ⟨fun w => ⟨_, Tryd.typeInfo108 w, rfl⟩⟩
instance zro_108 : Zro Tryd.prog 108 (.agg #[.int .u8 0, .int .u8 0, .int .u8 0, .int .u8 0, .int .u8 0, .int .u8 0, .int .u8 0, .int .u8 0, .int .u8 0, .int .u8 0, .int .u8 0, .int .u8 0, .int .u8 0, .int .u8 0, .int .u8 0, .int .u8 0, .int .u8 0, .int .u8 0, .int .u8 0, .int .u8 0, .int .u8 0, .int .u8 0, .int .u8 0, .int .u8 0, .int .u8 0, .int .u8 0, .int .u8 0, .int .u8 0, .int .u8 0, .int .u8 0, .int .u8 0, .int .u8 0, .int .u8 0, .int .u8 0, .int .u8 0, .int .u8 0, .int .u8 0, .int .u8 0, .int .u8 0, .int .u8 0, .int .u8 0, .int .u8 0, .int .u8 0, .int .u8 0, .int .u8 0, .int .u8 0, .int .u8 0, .int .u8 0, .int .u8 0, .int .u8 0, .int .u8 0, .int .u8 0, .int .u8 0, .int .u8 0, .int .u8 0, .int .u8 0, .int .u8 0, .int .u8 0, .int .u8 0, .int .u8 0, .int .u8 0, .int .u8 0, .int .u8 0, .int .u8 0]) := ⟨Tryd.zeroValue108⟩
instance strT_40 : StrT Tryd.prog 40 [(3, 0), (3, 1), (3, 2), (3, 3)] := ⟨_, Tryd.underlying40, Tryd.stoodInHeld40, Tryd.eqGuardType40, rfl, by decide⟩
instance strT_42 : StrT Tryd.prog 42 [(3, 0), (3, 1), (3, 2), (3, 3), (3, 4), (9, 5), (3, 6)] := ⟨_, Tryd.underlying42, Tryd.stoodInHeld42, Tryd.eqGuardType42, rfl, by decide⟩
instance foff_25_0 : FOff Tryd.prog 25 0 0 := fOff_of (n := 0) Tryd.underlying25 rfl Tryd.sizeOf22 rfl
instance foff_25_1 : FOff Tryd.prog 25 1 1 := fOff_of (n := 0) Tryd.underlying25 rfl Tryd.sizeOf23 rfl
instance foff_30_0 : FOff Tryd.prog 30 0 0 := fOff_of (n := 0) Tryd.underlying30 rfl Tryd.sizeOf28 rfl
instance foff_30_1 : FOff Tryd.prog 30 1 1 := fOff_of (n := 0) Tryd.underlying30 rfl Tryd.sizeOf26 rfl
instance foff_40_0 : FOff Tryd.prog 40 0 0 := fOff_of (n := 0) Tryd.underlying40 rfl Tryd.sizeOf3 rfl
instance foff_40_1 : FOff Tryd.prog 40 1 1 := fOff_of (n := 0) Tryd.underlying40 rfl Tryd.sizeOf3 rfl
instance foff_40_2 : FOff Tryd.prog 40 2 2 := fOff_of (n := 0) Tryd.underlying40 rfl Tryd.sizeOf3 rfl
instance foff_42_0 : FOff Tryd.prog 42 0 0 := fOff_of (n := 0) Tryd.underlying42 rfl Tryd.sizeOf3 rfl
instance foff_42_1 : FOff Tryd.prog 42 1 1 := fOff_of (n := 0) Tryd.underlying42 rfl Tryd.sizeOf3 rfl
instance foff_42_2 : FOff Tryd.prog 42 2 2 := fOff_of (n := 0) Tryd.underlying42 rfl Tryd.sizeOf3 rfl
instance foff_42_3 : FOff Tryd.prog 42 3 3 := fOff_of (n := 0) Tryd.underlying42 rfl Tryd.sizeOf3 rfl
instance foff_42_4 : FOff Tryd.prog 42 4 4 := fOff_of (n := 0) Tryd.underlying42 rfl Tryd.sizeOf3 rfl
instance foff_42_5 : FOff Tryd.prog 42 5 5 := fOff_of (n := 0) Tryd.underlying42 rfl Tryd.sizeOf9 rfl
instance foff_42_6 : FOff Tryd.prog 42 6 6 := fOff_of (n := 0) Tryd.underlying42 rfl Tryd.sizeOf3 rfl
instance foff_45_0 : FOff Tryd.prog 45 0 0 := fOff_of (n := 0) Tryd.underlying45 rfl Tryd.sizeOf43 rfl
instance foff_45_1 : FOff Tryd.prog 45 1 1 := fOff_of (n := 0) Tryd.underlying45 rfl Tryd.sizeOf9 rfl
instance foff_45_2 : FOff Tryd.prog 45 2 2 := fOff_of (n := 0) Tryd.underlying45 rfl Tryd.sizeOf3 rfl
instance foff_45_3 : FOff Tryd.prog 45 3 3 := fOff_of (n := 0) Tryd.underlying45 rfl Tryd.sizeOf26 rfl
instance foff_45_4 : FOff Tryd.prog 45 4 4 := fOff_of (n := 0) Tryd.underlying45 rfl Tryd.sizeOf3 rfl
instance foff_45_5 : FOff Tryd.prog 45 5 5 := fOff_of (n := 0) Tryd.underlying45 rfl Tryd.sizeOf3 rfl
instance foff_47_0 : FOff Tryd.prog 47 0 0 := fOff_of (n := 5) Tryd.underlying47 rfl Tryd.sizeOf45 rfl
instance foff_47_1 : FOff Tryd.prog 47 1 6 := fOff_of (n := 6) Tryd.underlying47 rfl Tryd.sizeOf42 rfl
instance foff_74_0 : FOff Tryd.prog 74 0 0 := fOff_of (n := 0) Tryd.underlying74 rfl Tryd.sizeOf3 rfl
instance foff_74_1 : FOff Tryd.prog 74 1 1 := fOff_of (n := 0) Tryd.underlying74 rfl Tryd.sizeOf9 rfl
instance foff_80_0 : FOff Tryd.prog 80 0 0 := fOff_of (n := 0) Tryd.underlying80 rfl Tryd.sizeOf78 rfl
instance foff_86_0 : FOff Tryd.prog 86 0 0 := fOff_of (n := 0) Tryd.underlying86 rfl Tryd.sizeOf4 rfl
instance foff_86_1 : FOff Tryd.prog 86 1 1 := fOff_of (n := 0) Tryd.underlying86 rfl Tryd.sizeOf84 rfl
instance btab_25 : BTab Tryd.prog 25 [.slice none 0 0, .slice none 0 0] [(0, 1), (1, 1)] := ⟨fun parts w => by simp [Instr.build]; exact run_fill (fillP _ _ parts.toList)⟩
instance btab_30 : BTab Tryd.prog 30 [.slice none 0 0, .slice none 0 0] [(0, 1), (1, 1)] := ⟨fun parts w => by simp [Instr.build]; exact run_fill (fillP _ _ parts.toList)⟩
instance btab_40 : BTab Tryd.prog 40 [.int .i64 0, .int .i64 0, .int .i64 0, .int .i64 0] [(0, 1), (1, 1), (2, 1), (3, 1)] := ⟨fun parts w => by simp [Instr.build]; exact run_fill (fillP _ _ parts.toList)⟩
instance btab_42 : BTab Tryd.prog 42 [.int .i64 0, .int .i64 0, .int .i64 0, .int .i64 0, .int .i64 0, .string ⟨#[]⟩, .int .i64 0] [(0, 1), (1, 1), (2, 1), (3, 1), (4, 1), (5, 1), (6, 1)] := ⟨fun parts w => by simp [Instr.build]; exact run_fill (fillP _ _ parts.toList)⟩
instance btab_45 : BTab Tryd.prog 45 [.int .i64 0, .string ⟨#[]⟩, .int .i64 0, .slice none 0 0, .int .i64 0, .int .i64 0] [(0, 1), (1, 1), (2, 1), (3, 1), (4, 1), (5, 1)] := ⟨fun parts w => by simp [Instr.build]; exact run_fill (fillP _ _ parts.toList)⟩
instance btab_47 : BTab Tryd.prog 47 [.int .i64 0, .string ⟨#[]⟩, .int .i64 0, .slice none 0 0, .int .i64 0, .int .i64 0, .int .i64 0, .int .i64 0, .int .i64 0, .int .i64 0, .int .i64 0, .string ⟨#[]⟩, .int .i64 0] [(0, 6), (6, 7)] := ⟨fun parts w => by simp [Instr.build]; exact run_fill (fillP _ _ parts.toList)⟩
instance btab_74 : BTab Tryd.prog 74 [.int .i64 0, .string ⟨#[]⟩] [(0, 1), (1, 1)] := ⟨fun parts w => by simp [Instr.build]; exact run_fill (fillP _ _ parts.toList)⟩
instance btab_80 : BTab Tryd.prog 80 [.map none] [(0, 1)] := ⟨fun parts w => by simp [Instr.build]; exact run_fill (fillP _ _ parts.toList)⟩
instance btab_86 : BTab Tryd.prog 86 [.bool false, .nilFunc] [(0, 1), (1, 1)] := ⟨fun parts w => by simp [Instr.build]; exact run_fill (fillP _ _ parts.toList)⟩
instance callee_2 : Callee Tryd.prog 2 := ⟨Tryd.call2⟩
instance callee_3 : Callee Tryd.prog 3 := ⟨Tryd.call3⟩
instance callee_4 : Callee Tryd.prog 4 := ⟨Tryd.call4⟩
instance callee_5 : Callee Tryd.prog 5 := ⟨Tryd.call5⟩
instance callee_6 : Callee Tryd.prog 6 := ⟨Tryd.call6⟩
instance callee_7 : Callee Tryd.prog 7 := ⟨Tryd.call7⟩
instance callee_8 : Callee Tryd.prog 8 := ⟨Tryd.call8⟩
instance callee_9 : Callee Tryd.prog 9 := ⟨Tryd.call9⟩
instance callee_10 : Callee Tryd.prog 10 := ⟨Tryd.call10⟩
instance callee_11 : Callee Tryd.prog 11 := ⟨Tryd.call11⟩
instance callee_12 : Callee Tryd.prog 12 := ⟨Tryd.call12⟩
instance callee_13 : Callee Tryd.prog 13 := ⟨Tryd.call13⟩
instance callee_14 : Callee Tryd.prog 14 := ⟨Tryd.call14⟩
instance callee_15 : Callee Tryd.prog 15 := ⟨Tryd.call15⟩
instance callee_16 : Callee Tryd.prog 16 := ⟨Tryd.call16⟩
instance callee_17 : Callee Tryd.prog 17 := ⟨Tryd.call17⟩
instance callee_18 : Callee Tryd.prog 18 := ⟨Tryd.call18⟩
instance callee_19 : Callee Tryd.prog 19 := ⟨Tryd.call19⟩
instance callee_20 : Callee Tryd.prog 20 := ⟨Tryd.call20⟩
instance callee_21 : Callee Tryd.prog 21 := ⟨Tryd.call21⟩
instance callee_22 : Callee Tryd.prog 22 := ⟨Tryd.call22⟩
instance callee_23 : Callee Tryd.prog 23 := ⟨Tryd.call23⟩
instance callee_24 : Callee Tryd.prog 24 := ⟨Tryd.call24⟩
instance callee_25 : Callee Tryd.prog 25 := ⟨Tryd.call25⟩
instance callee_26 : Callee Tryd.prog 26 := ⟨Tryd.call26⟩
instance callee_27 : Callee Tryd.prog 27 := ⟨Tryd.call27⟩
instance callee_28 : Callee Tryd.prog 28 := ⟨Tryd.call28⟩
instance callee_29 : Callee Tryd.prog 29 := ⟨Tryd.call29⟩
instance callee_30 : Callee Tryd.prog 30 := ⟨Tryd.call30⟩
instance callee_31 : Callee Tryd.prog 31 := ⟨Tryd.call31⟩
instance callee_32 : Callee Tryd.prog 32 := ⟨Tryd.call32⟩
instance callee_33 : Callee Tryd.prog 33 := ⟨Tryd.call33⟩
instance callee_34 : Callee Tryd.prog 34 := ⟨Tryd.call34⟩
instance callee_35 : Callee Tryd.prog 35 := ⟨Tryd.call35⟩
instance callee_36 : Callee Tryd.prog 36 := ⟨Tryd.call36⟩
instance callee_37 : Callee Tryd.prog 37 := ⟨Tryd.call37⟩
instance callee_38 : Callee Tryd.prog 38 := ⟨Tryd.call38⟩
instance callee_39 : Callee Tryd.prog 39 := ⟨Tryd.call39⟩
instance callee_40 : Callee Tryd.prog 40 := ⟨Tryd.call40⟩
instance callee_41 : Callee Tryd.prog 41 := ⟨Tryd.call41⟩
instance callee_42 : Callee Tryd.prog 42 := ⟨Tryd.call42⟩
instance callee_43 : Callee Tryd.prog 43 := ⟨Tryd.call43⟩
instance callee_44 : Callee Tryd.prog 44 := ⟨Tryd.call44⟩
instance callee_45 : Callee Tryd.prog 45 := ⟨Tryd.call45⟩
instance callee_46 : Callee Tryd.prog 46 := ⟨Tryd.call46⟩
instance callee_47 : Callee Tryd.prog 47 := ⟨Tryd.call47⟩
instance callee_48 : Callee Tryd.prog 48 := ⟨Tryd.call48⟩
instance callee_49 : Callee Tryd.prog 49 := ⟨Tryd.call49⟩
instance callee_50 : Callee Tryd.prog 50 := ⟨Tryd.call50⟩
instance callee_51 : Callee Tryd.prog 51 := ⟨Tryd.call51⟩
instance callee_52 : Callee Tryd.prog 52 := ⟨Tryd.call52⟩
instance callee_53 : Callee Tryd.prog 53 := ⟨Tryd.call53⟩
instance callee_54 : Callee Tryd.prog 54 := ⟨Tryd.call54⟩
instance callee_55 : Callee Tryd.prog 55 := ⟨Tryd.call55⟩
instance callee_56 : Callee Tryd.prog 56 := ⟨Tryd.call56⟩
instance callee_78 : Callee Tryd.prog 78 := ⟨Tryd.call78⟩
instance resT_2 : ResT Tryd.f2 [] := ⟨rfl⟩
instance resT_3 : ResT Tryd.f3 [4] := ⟨rfl⟩
instance resT_4 : ResT Tryd.f4 [0] := ⟨rfl⟩
instance resT_7 : ResT Tryd.f7 [4] := ⟨rfl⟩
instance resT_8 : ResT Tryd.f8 [4] := ⟨rfl⟩
instance resT_9 : ResT Tryd.f9 [2] := ⟨rfl⟩
instance resT_10 : ResT Tryd.f10 [4] := ⟨rfl⟩
instance resT_12 : ResT Tryd.f12 [2] := ⟨rfl⟩
instance resT_13 : ResT Tryd.f13 [4, 5] := ⟨rfl⟩
instance resT_15 : ResT Tryd.f15 [4, 5, 6] := ⟨rfl⟩
instance resT_16 : ResT Tryd.f16 [4, 5] := ⟨rfl⟩
instance resT_18 : ResT Tryd.f18 [2] := ⟨rfl⟩
instance resT_19 : ResT Tryd.f19 [4] := ⟨rfl⟩
instance resT_20 : ResT Tryd.f20 [4] := ⟨rfl⟩
instance resT_21 : ResT Tryd.f21 [2] := ⟨rfl⟩
instance resT_22 : ResT Tryd.f22 [4] := ⟨rfl⟩
instance resT_23 : ResT Tryd.f23 [4, 5] := ⟨rfl⟩
instance resT_24 : ResT Tryd.f24 [2] := ⟨rfl⟩
instance resT_25 : ResT Tryd.f25 [4, 5] := ⟨rfl⟩
instance resT_26 : ResT Tryd.f26 [4, 5] := ⟨rfl⟩
instance resT_27 : ResT Tryd.f27 [4] := ⟨rfl⟩
instance resT_28 : ResT Tryd.f28 [4] := ⟨rfl⟩
instance resT_29 : ResT Tryd.f29 [4, 5] := ⟨rfl⟩
instance resT_30 : ResT Tryd.f30 [4, 5] := ⟨rfl⟩
instance resT_31 : ResT Tryd.f31 [6] := ⟨rfl⟩
instance resT_32 : ResT Tryd.f32 [2] := ⟨rfl⟩
instance resT_33 : ResT Tryd.f33 [0] := ⟨rfl⟩
instance resT_34 : ResT Tryd.f34 [4] := ⟨rfl⟩
instance resT_35 : ResT Tryd.f35 [6] := ⟨rfl⟩
instance resT_36 : ResT Tryd.f36 [4] := ⟨rfl⟩
instance resT_37 : ResT Tryd.f37 [4, 5] := ⟨rfl⟩
instance resT_38 : ResT Tryd.f38 [4, 5] := ⟨rfl⟩
instance resT_39 : ResT Tryd.f39 [4, 5] := ⟨rfl⟩
instance resT_40 : ResT Tryd.f40 [4, 5] := ⟨rfl⟩
instance resT_41 : ResT Tryd.f41 [4, 5] := ⟨rfl⟩
instance resT_42 : ResT Tryd.f42 [4, 5] := ⟨rfl⟩
instance resT_43 : ResT Tryd.f43 [2] := ⟨rfl⟩
instance resT_44 : ResT Tryd.f44 [2] := ⟨rfl⟩
instance resT_45 : ResT Tryd.f45 [2] := ⟨rfl⟩
instance resT_46 : ResT Tryd.f46 [] := ⟨rfl⟩
instance resT_47 : ResT Tryd.f47 [10, 11] := ⟨rfl⟩
instance resT_48 : ResT Tryd.f48 [4] := ⟨rfl⟩
instance resT_49 : ResT Tryd.f49 [2] := ⟨rfl⟩
instance resT_50 : ResT Tryd.f50 [2] := ⟨rfl⟩
instance resT_51 : ResT Tryd.f51 [2] := ⟨rfl⟩
instance resT_52 : ResT Tryd.f52 [2] := ⟨rfl⟩
instance resT_53 : ResT Tryd.f53 [2] := ⟨rfl⟩
instance resT_54 : ResT Tryd.f54 [2] := ⟨rfl⟩
instance resT_55 : ResT Tryd.f55 [2] := ⟨rfl⟩
instance resT_56 : ResT Tryd.f56 [2] := ⟨rfl⟩
instance resT_78 : ResT Tryd.f78 [] := ⟨rfl⟩
instance resC_14 : ResC Tryd.f14 2 45 := ⟨rfl⟩
instance resC_17 : ResC Tryd.f17 2 25 := ⟨rfl⟩
instance resL_5 : ResL Tryd.f5 [.cell 4 30, .tmp 5] := ⟨rfl⟩
instance resL_6 : ResL Tryd.f6 [.cell 4 30, .tmp 5, .tmp 6] := ⟨rfl⟩
instance resL_11 : ResL Tryd.f11 [.cell 4 30, .tmp 5] := ⟨rfl⟩
instance resL_14 : ResL Tryd.f14 [.cell 2 45] := ⟨rfl⟩
instance resL_17 : ResL Tryd.f17 [.cell 2 25] := ⟨rfl⟩
instance natIdx_c2 : NatIdx 2 2 := ⟨rfl⟩
instance natIdx_c3 : NatIdx 3 3 := ⟨rfl⟩
instance natIdx_c4 : NatIdx 4 4 := ⟨rfl⟩
instance natIdx_c5 : NatIdx 5 5 := ⟨rfl⟩
instance natIdx_c6 : NatIdx 6 6 := ⟨rfl⟩
instance natIdx_c7 : NatIdx 7 7 := ⟨rfl⟩
instance natIdx_c8 : NatIdx 8 8 := ⟨rfl⟩
instance natIdx_c9 : NatIdx 9 9 := ⟨rfl⟩
instance natIdx_c10 : NatIdx 10 10 := ⟨rfl⟩
instance natIdx_c11 : NatIdx 11 11 := ⟨rfl⟩
instance natIdx_c12 : NatIdx 12 12 := ⟨rfl⟩
instance natIdx_c13 : NatIdx 13 13 := ⟨rfl⟩
instance natIdx_c14 : NatIdx 14 14 := ⟨rfl⟩
instance natIdx_c15 : NatIdx 15 15 := ⟨rfl⟩
instance natIdx_c16 : NatIdx 16 16 := ⟨rfl⟩
instance natIdx_c17 : NatIdx 17 17 := ⟨rfl⟩
instance natIdx_c18 : NatIdx 18 18 := ⟨rfl⟩
instance natIdx_c19 : NatIdx 19 19 := ⟨rfl⟩
instance natIdx_c20 : NatIdx 20 20 := ⟨rfl⟩
instance natIdx_c21 : NatIdx 21 21 := ⟨rfl⟩
instance natIdx_c22 : NatIdx 22 22 := ⟨rfl⟩
instance natIdx_c23 : NatIdx 23 23 := ⟨rfl⟩
instance natIdx_c24 : NatIdx 24 24 := ⟨rfl⟩
instance natIdx_c25 : NatIdx 25 25 := ⟨rfl⟩
instance natIdx_c26 : NatIdx 26 26 := ⟨rfl⟩
instance natIdx_c27 : NatIdx 27 27 := ⟨rfl⟩
instance natIdx_c28 : NatIdx 28 28 := ⟨rfl⟩
instance natIdx_c29 : NatIdx 29 29 := ⟨rfl⟩
instance natIdx_c30 : NatIdx 30 30 := ⟨rfl⟩
instance natIdx_c31 : NatIdx 31 31 := ⟨rfl⟩
instance natIdx_c32 : NatIdx 32 32 := ⟨rfl⟩
instance natIdx_c33 : NatIdx 33 33 := ⟨rfl⟩
instance natIdx_c34 : NatIdx 34 34 := ⟨rfl⟩
instance natIdx_c35 : NatIdx 35 35 := ⟨rfl⟩
instance natIdx_c36 : NatIdx 36 36 := ⟨rfl⟩
instance natIdx_c37 : NatIdx 37 37 := ⟨rfl⟩
instance natIdx_c38 : NatIdx 38 38 := ⟨rfl⟩
instance natIdx_c39 : NatIdx 39 39 := ⟨rfl⟩
instance natIdx_c40 : NatIdx 40 40 := ⟨rfl⟩
instance natIdx_c41 : NatIdx 41 41 := ⟨rfl⟩
instance natIdx_c42 : NatIdx 42 42 := ⟨rfl⟩
instance natIdx_c43 : NatIdx 43 43 := ⟨rfl⟩
instance natIdx_c44 : NatIdx 44 44 := ⟨rfl⟩
instance natIdx_c45 : NatIdx 45 45 := ⟨rfl⟩
instance natIdx_c46 : NatIdx 46 46 := ⟨rfl⟩
instance natIdx_c47 : NatIdx 47 47 := ⟨rfl⟩
instance natIdx_c48 : NatIdx 48 48 := ⟨rfl⟩
instance natIdx_c49 : NatIdx 49 49 := ⟨rfl⟩
instance natIdx_c50 : NatIdx 50 50 := ⟨rfl⟩
instance natIdx_c51 : NatIdx 51 51 := ⟨rfl⟩
instance natIdx_c52 : NatIdx 52 52 := ⟨rfl⟩
instance natIdx_c53 : NatIdx 53 53 := ⟨rfl⟩
instance natIdx_c54 : NatIdx 54 54 := ⟨rfl⟩
instance natIdx_c55 : NatIdx 55 55 := ⟨rfl⟩
instance natIdx_c56 : NatIdx 56 56 := ⟨rfl⟩
instance natIdx_c57 : NatIdx 57 57 := ⟨rfl⟩
instance natIdx_c58 : NatIdx 58 58 := ⟨rfl⟩
instance natIdx_c59 : NatIdx 59 59 := ⟨rfl⟩
instance natIdx_c60 : NatIdx 60 60 := ⟨rfl⟩
instance natIdx_c61 : NatIdx 61 61 := ⟨rfl⟩
instance natIdx_c62 : NatIdx 62 62 := ⟨rfl⟩
instance natIdx_c63 : NatIdx 63 63 := ⟨rfl⟩
instance natIdx_c64 : NatIdx 64 64 := ⟨rfl⟩
instance natIdx_c65 : NatIdx 65 65 := ⟨rfl⟩
instance natIdx_c100 : NatIdx 100 100 := ⟨rfl⟩
instance natIdx_c160 : NatIdx 160 160 := ⟨rfl⟩
instance natIdx_c256 : NatIdx 256 256 := ⟨rfl⟩
instance natIdx_c1000 : NatIdx 1000 1000 := ⟨rfl⟩
instance natIdx_c10000 : NatIdx 10000 10000 := ⟨rfl⟩
instance natIdx_c65536 : NatIdx 65536 65536 := ⟨rfl⟩
instance natIdx_c78913 : NatIdx 78913 78913 := ⟨rfl⟩
instance natIdx_c100000 : NatIdx 100000 100000 := ⟨rfl⟩
instance natIdx_c1000000 : NatIdx 1000000 1000000 := ⟨rfl⟩
instance natIdx_c10000000 : NatIdx 10000000 10000000 := ⟨rfl⟩
instance natIdx_c100000000 : NatIdx 100000000 100000000 := ⟨rfl⟩
instance natIdx_c125613361 : NatIdx 125613361 125613361 := ⟨rfl⟩
instance natIdx_c1000000000 : NatIdx 1000000000 1000000000 := ⟨rfl⟩
instance natIdx_c4294967296 : NatIdx 4294967296 4294967296 := ⟨rfl⟩
instance natIdx_c10000000000 : NatIdx 10000000000 10000000000 := ⟨rfl⟩
instance natIdx_c100000000000 : NatIdx 100000000000 100000000000 := ⟨rfl⟩
instance natIdx_c1000000000000 : NatIdx 1000000000000 1000000000000 := ⟨rfl⟩
theorem mixed : Tryd.prog.follows .mixedOrders = true := by kernel_rfl
end Go.Proofs.YtcoohckdnefacaaDoor.S
