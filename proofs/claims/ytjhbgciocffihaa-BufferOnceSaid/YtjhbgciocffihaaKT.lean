/- Facts on the translation's types: sizes and zero values. -/
import Derived.Test.YtjhbgciocffihaaProg
import Derived.KernelRfl
namespace Go.Proofs.Ytjhbgciocffihaa
theorem sz_1 : (Try.prog.info? 1).map (·.size) = some 1 := by kernel_rfl
theorem zr_1 : (Try.prog.info? 1).map (·.zero) = some (some (.nilFunc)) := by kernel_rfl
theorem sz_2 : (Try.prog.info? 2).map (·.size) = some 1 := by kernel_rfl
theorem zr_2 : (Try.prog.info? 2).map (·.zero) = some (some (.int .i64 0)) := by kernel_rfl
theorem sz_3 : (Try.prog.info? 3).map (·.size) = some 1 := by kernel_rfl
theorem zr_3 : (Try.prog.info? 3).map (·.zero) = some (some (.int .i64 0)) := by kernel_rfl
theorem sz_4 : (Try.prog.info? 4).map (·.size) = some 1 := by kernel_rfl
theorem zr_4 : (Try.prog.info? 4).map (·.zero) = some (some (.bool false)) := by kernel_rfl
theorem sz_5 : (Try.prog.info? 5).map (·.size) = some 1 := by kernel_rfl
theorem zr_5 : (Try.prog.info? 5).map (·.zero) = some (some (.int .u8 0)) := by kernel_rfl
theorem sz_6 : (Try.prog.info? 6).map (·.size) = some 1 := by kernel_rfl
theorem zr_6 : (Try.prog.info? 6).map (·.zero) = some (some (.int .u8 0)) := by kernel_rfl
theorem sz_7 : (Try.prog.info? 7).map (·.size) = some 4 := by kernel_rfl
theorem zr_7 : (Try.prog.info? 7).map (·.zero) = some (some (.agg #[.int .i64 0, .int .i64 0, .bool false, .int .u8 0])) := by kernel_rfl
theorem sz_8 : (Try.prog.info? 8).map (·.size) = some 4 := by kernel_rfl
theorem zr_8 : (Try.prog.info? 8).map (·.zero) = some (some (.agg #[.int .i64 0, .int .i64 0, .bool false, .int .u8 0])) := by kernel_rfl
theorem sz_9 : (Try.prog.info? 9).map (·.size) = some 1 := by kernel_rfl
theorem zr_9 : (Try.prog.info? 9).map (·.zero) = some (some (.string ByteArray.empty)) := by kernel_rfl
theorem sz_10 : (Try.prog.info? 10).map (·.size) = some 1 := by kernel_rfl
theorem zr_10 : (Try.prog.info? 10).map (·.zero) = some (some (.string ByteArray.empty)) := by kernel_rfl
theorem sz_11 : (Try.prog.info? 11).map (·.size) = some 1 := by kernel_rfl
theorem zr_11 : (Try.prog.info? 11).map (·.zero) = some (some (.string ByteArray.empty)) := by kernel_rfl
theorem sz_12 : (Try.prog.info? 12).map (·.size) = some 1 := by kernel_rfl
theorem zr_12 : (Try.prog.info? 12).map (·.zero) = some (some (.int .u64 0)) := by kernel_rfl
theorem sz_13 : (Try.prog.info? 13).map (·.size) = some 2 := by kernel_rfl
theorem zr_13 : (Try.prog.info? 13).map (·.zero) = some (some (.agg #[.string ByteArray.empty, .int .u64 0])) := by kernel_rfl
theorem sz_14 : (Try.prog.info? 14).map (·.size) = some 2 := by kernel_rfl
theorem zr_14 : (Try.prog.info? 14).map (·.zero) = some (some (.agg #[.string ByteArray.empty, .int .u64 0])) := by kernel_rfl
theorem sz_15 : (Try.prog.info? 15).map (·.size) = some 1 := by kernel_rfl
theorem zr_15 : (Try.prog.info? 15).map (·.zero) = some (some (.pointer none)) := by kernel_rfl
theorem sz_16 : (Try.prog.info? 16).map (·.size) = some 1 := by kernel_rfl
theorem zr_16 : (Try.prog.info? 16).map (·.zero) = some (some (.pointer none)) := by kernel_rfl
theorem sz_17 : (Try.prog.info? 17).map (·.size) = some 1 := by kernel_rfl
theorem zr_17 : (Try.prog.info? 17).map (·.zero) = some (some (.pointer none)) := by kernel_rfl
theorem sz_18 : (Try.prog.info? 18).map (·.size) = some 1 := by kernel_rfl
theorem zr_18 : (Try.prog.info? 18).map (·.zero) = some (some (.agg #[.pointer none])) := by kernel_rfl
theorem sz_19 : (Try.prog.info? 19).map (·.size) = some 1 := by kernel_rfl
theorem zr_19 : (Try.prog.info? 19).map (·.zero) = some (some (.agg #[.pointer none])) := by kernel_rfl
theorem sz_20 : (Try.prog.info? 20).map (·.size) = some 1 := by kernel_rfl
theorem zr_20 : (Try.prog.info? 20).map (·.zero) = some (some (.nilIface)) := by kernel_rfl
theorem sz_21 : (Try.prog.info? 21).map (·.size) = some 1 := by kernel_rfl
theorem zr_21 : (Try.prog.info? 21).map (·.zero) = some (some (.int .i32 0)) := by kernel_rfl
theorem sz_22 : (Try.prog.info? 22).map (·.size) = some 1 := by kernel_rfl
theorem zr_22 : (Try.prog.info? 22).map (·.zero) = some (some (.int .u16 0)) := by kernel_rfl
theorem sz_23 : (Try.prog.info? 23).map (·.size) = some 1 := by kernel_rfl
theorem zr_23 : (Try.prog.info? 23).map (·.zero) = some (some (.slice none 0 0)) := by kernel_rfl
theorem sz_24 : (Try.prog.info? 24).map (·.size) = some 1 := by kernel_rfl
theorem zr_24 : (Try.prog.info? 24).map (·.zero) = some (some (.nilFunc)) := by kernel_rfl
theorem sz_25 : (Try.prog.info? 25).map (·.size) = some 1 := by kernel_rfl
theorem zr_25 : (Try.prog.info? 25).map (·.zero) = some (some (.pointer none)) := by kernel_rfl
theorem sz_26 : (Try.prog.info? 26).map (·.size) = some 1 := by kernel_rfl
theorem zr_26 : (Try.prog.info? 26).map (·.zero) = some (some (.int .i64 0)) := by kernel_rfl
theorem sz_28 : (Try.prog.info? 28).map (·.size) = some 1 := by kernel_rfl
theorem zr_28 : (Try.prog.info? 28).map (·.zero) = some (some (.nilFunc)) := by kernel_rfl
theorem sz_29 : (Try.prog.info? 29).map (·.size) = some 1 := by kernel_rfl
theorem zr_29 : (Try.prog.info? 29).map (·.zero) = some (some (.map none)) := by kernel_rfl
theorem sz_30 : (Try.prog.info? 30).map (·.size) = some 5 := by kernel_rfl
theorem zr_30 : (Try.prog.info? 30).map (·.zero) = some (some (.agg #[.int .i64 0, .int .i64 0, .int .i64 0, .int .i64 0, .int .i64 0])) := by kernel_rfl
theorem sz_31 : (Try.prog.info? 31).map (·.size) = some 5 := by kernel_rfl
theorem zr_31 : (Try.prog.info? 31).map (·.zero) = some (some (.agg #[.int .i64 0, .int .i64 0, .int .i64 0, .int .i64 0, .int .i64 0])) := by kernel_rfl
theorem sz_32 : (Try.prog.info? 32).map (·.size) = some 5 := by kernel_rfl
theorem zr_32 : (Try.prog.info? 32).map (·.zero) = some (some (.agg #[.int .u8 0, .int .u8 0, .int .u8 0, .int .u8 0, .int .u8 0])) := by kernel_rfl
theorem sz_33 : (Try.prog.info? 33).map (·.size) = some 5 := by kernel_rfl
theorem zr_33 : (Try.prog.info? 33).map (·.zero) = some (some (.agg #[.int .u8 0, .int .u8 0, .int .u8 0, .int .u8 0, .int .u8 0])) := by kernel_rfl
theorem sz_34 : (Try.prog.info? 34).map (·.size) = some 1 := by kernel_rfl
theorem zr_34 : (Try.prog.info? 34).map (·.zero) = some (some (.nilFunc)) := by kernel_rfl
theorem sz_35 : (Try.prog.info? 35).map (·.size) = some 1 := by kernel_rfl
theorem zr_35 : (Try.prog.info? 35).map (·.zero) = some (some (.slice none 0 0)) := by kernel_rfl
theorem sz_36 : (Try.prog.info? 36).map (·.size) = some 1 := by kernel_rfl
theorem zr_36 : (Try.prog.info? 36).map (·.zero) = some (some (.nilFunc)) := by kernel_rfl
theorem sz_37 : (Try.prog.info? 37).map (·.size) = some 1 := by kernel_rfl
theorem zr_37 : (Try.prog.info? 37).map (·.zero) = some (some (.slice none 0 0)) := by kernel_rfl
theorem sz_39 : (Try.prog.info? 39).map (·.size) = some 1 := by kernel_rfl
theorem zr_39 : (Try.prog.info? 39).map (·.zero) = some (some (.nilFunc)) := by kernel_rfl
theorem sz_40 : (Try.prog.info? 40).map (·.size) = some 1 := by kernel_rfl
theorem zr_40 : (Try.prog.info? 40).map (·.zero) = some (some (.nilFunc)) := by kernel_rfl
theorem sz_41 : (Try.prog.info? 41).map (·.size) = some 1 := by kernel_rfl
theorem zr_41 : (Try.prog.info? 41).map (·.zero) = some (some (.nilFunc)) := by kernel_rfl
theorem sz_42 : (Try.prog.info? 42).map (·.size) = some 1 := by kernel_rfl
theorem zr_42 : (Try.prog.info? 42).map (·.zero) = some (some (.nilFunc)) := by kernel_rfl
theorem sz_43 : (Try.prog.info? 43).map (·.size) = some 7 := by kernel_rfl
theorem zr_43 : (Try.prog.info? 43).map (·.zero) = some (some (.agg #[.int .i64 0, .int .i64 0, .int .i64 0, .int .i64 0, .int .i64 0, .bool false, .int .i64 0])) := by kernel_rfl
theorem sz_44 : (Try.prog.info? 44).map (·.size) = some 7 := by kernel_rfl
theorem zr_44 : (Try.prog.info? 44).map (·.zero) = some (some (.agg #[.int .i64 0, .int .i64 0, .int .i64 0, .int .i64 0, .int .i64 0, .bool false, .int .i64 0])) := by kernel_rfl
theorem sz_45 : (Try.prog.info? 45).map (·.size) = some 1 := by kernel_rfl
theorem zr_45 : (Try.prog.info? 45).map (·.zero) = some (some (.nilFunc)) := by kernel_rfl
theorem sz_47 : (Try.prog.info? 47).map (·.size) = some 1 := by kernel_rfl
theorem zr_47 : (Try.prog.info? 47).map (·.zero) = some (some (.nilFunc)) := by kernel_rfl
theorem sz_48 : (Try.prog.info? 48).map (·.size) = some 1 := by kernel_rfl
theorem zr_48 : (Try.prog.info? 48).map (·.zero) = some (some (.nilFunc)) := by kernel_rfl
theorem sz_49 : (Try.prog.info? 49).map (·.size) = some 1 := by kernel_rfl
theorem zr_49 : (Try.prog.info? 49).map (·.zero) = some (some (.slice none 0 0)) := by kernel_rfl
theorem sz_50 : (Try.prog.info? 50).map (·.size) = some 3 := by kernel_rfl
theorem zr_50 : (Try.prog.info? 50).map (·.zero) = some (some (.agg #[.int .u8 0, .int .u8 0, .int .u8 0])) := by kernel_rfl
theorem sz_51 : (Try.prog.info? 51).map (·.size) = some 1 := by kernel_rfl
theorem zr_51 : (Try.prog.info? 51).map (·.zero) = some (some (.nilFunc)) := by kernel_rfl
theorem sz_52 : (Try.prog.info? 52).map (·.size) = some 1 := by kernel_rfl
theorem zr_52 : (Try.prog.info? 52).map (·.zero) = some (some (.nilFunc)) := by kernel_rfl
theorem sz_53 : (Try.prog.info? 53).map (·.size) = some 1 := by kernel_rfl
theorem zr_53 : (Try.prog.info? 53).map (·.zero) = some (some (.slice none 0 0)) := by kernel_rfl
theorem sz_54 : (Try.prog.info? 54).map (·.size) = some 1 := by kernel_rfl
theorem zr_54 : (Try.prog.info? 54).map (·.zero) = some (some (.nilFunc)) := by kernel_rfl
theorem sz_55 : (Try.prog.info? 55).map (·.size) = some 1 := by kernel_rfl
theorem zr_55 : (Try.prog.info? 55).map (·.zero) = some (some (.pointer none)) := by kernel_rfl
theorem sz_57 : (Try.prog.info? 57).map (·.size) = some 1 := by kernel_rfl
theorem zr_57 : (Try.prog.info? 57).map (·.zero) = some (some (.nilFunc)) := by kernel_rfl
theorem sz_58 : (Try.prog.info? 58).map (·.size) = some 1 := by kernel_rfl
theorem zr_58 : (Try.prog.info? 58).map (·.zero) = some (some (.slice none 0 0)) := by kernel_rfl
theorem sz_59 : (Try.prog.info? 59).map (·.size) = some 10 := by kernel_rfl
theorem zr_59 : (Try.prog.info? 59).map (·.zero) = some (some (.agg #[.int .u8 0, .int .i64 0, .int .i64 0, .int .i64 0, .int .i64 0, .int .i64 0, .int .i64 0, .int .i64 0, .int .i64 0, .slice none 0 0])) := by kernel_rfl
theorem sz_60 : (Try.prog.info? 60).map (·.size) = some 10 := by kernel_rfl
theorem zr_60 : (Try.prog.info? 60).map (·.zero) = some (some (.agg #[.int .u8 0, .int .i64 0, .int .i64 0, .int .i64 0, .int .i64 0, .int .i64 0, .int .i64 0, .int .i64 0, .int .i64 0, .slice none 0 0])) := by kernel_rfl
theorem sz_62 : (Try.prog.info? 62).map (·.size) = some 1 := by kernel_rfl
theorem zr_62 : (Try.prog.info? 62).map (·.zero) = some (some (.nilFunc)) := by kernel_rfl
theorem sz_63 : (Try.prog.info? 63).map (·.size) = some 1 := by kernel_rfl
theorem zr_63 : (Try.prog.info? 63).map (·.zero) = some (some (.nilFunc)) := by kernel_rfl
theorem sz_64 : (Try.prog.info? 64).map (·.size) = some 2 := by kernel_rfl
theorem zr_64 : (Try.prog.info? 64).map (·.zero) = some (some (.agg #[.int .i64 0, .int .i64 0])) := by kernel_rfl
theorem sz_65 : (Try.prog.info? 65).map (·.size) = some 2 := by kernel_rfl
theorem zr_65 : (Try.prog.info? 65).map (·.zero) = some (some (.agg #[.int .i64 0, .int .i64 0])) := by kernel_rfl
theorem sz_66 : (Try.prog.info? 66).map (·.size) = some 1 := by kernel_rfl
theorem zr_66 : (Try.prog.info? 66).map (·.zero) = some (some (.nilFunc)) := by kernel_rfl
theorem sz_67 : (Try.prog.info? 67).map (·.size) = some 3 := by kernel_rfl
theorem zr_67 : (Try.prog.info? 67).map (·.zero) = some (some (.agg #[.int .i64 0, .int .i64 0, .slice none 0 0])) := by kernel_rfl
theorem sz_68 : (Try.prog.info? 68).map (·.size) = some 3 := by kernel_rfl
theorem zr_68 : (Try.prog.info? 68).map (·.zero) = some (some (.agg #[.int .i64 0, .int .i64 0, .slice none 0 0])) := by kernel_rfl
theorem sz_69 : (Try.prog.info? 69).map (·.size) = some 1 := by kernel_rfl
theorem zr_69 : (Try.prog.info? 69).map (·.zero) = some (some (.nilFunc)) := by kernel_rfl
theorem sz_70 : (Try.prog.info? 70).map (·.size) = some 1 := by kernel_rfl
theorem zr_70 : (Try.prog.info? 70).map (·.zero) = some (some (.slice none 0 0)) := by kernel_rfl
theorem sz_71 : (Try.prog.info? 71).map (·.size) = some 1 := by kernel_rfl
theorem zr_71 : (Try.prog.info? 71).map (·.zero) = some (some (.pointer none)) := by kernel_rfl
theorem sz_72 : (Try.prog.info? 72).map (·.size) = some 1 := by kernel_rfl
theorem zr_72 : (Try.prog.info? 72).map (·.zero) = some (some (.nilFunc)) := by kernel_rfl
theorem sz_73 : (Try.prog.info? 73).map (·.size) = some 1 := by kernel_rfl
theorem zr_73 : (Try.prog.info? 73).map (·.zero) = some (some (.pointer none)) := by kernel_rfl
theorem sz_74 : (Try.prog.info? 74).map (·.size) = some 1 := by kernel_rfl
theorem zr_74 : (Try.prog.info? 74).map (·.zero) = some (some (.agg #[.slice none 0 0])) := by kernel_rfl
theorem sz_75 : (Try.prog.info? 75).map (·.size) = some 1 := by kernel_rfl
theorem zr_75 : (Try.prog.info? 75).map (·.zero) = some (some (.agg #[.slice none 0 0])) := by kernel_rfl
theorem sz_77 : (Try.prog.info? 77).map (·.size) = some 1 := by kernel_rfl
theorem zr_77 : (Try.prog.info? 77).map (·.zero) = some (some (.nilFunc)) := by kernel_rfl
theorem sz_78 : (Try.prog.info? 78).map (·.size) = some 1 := by kernel_rfl
theorem zr_78 : (Try.prog.info? 78).map (·.zero) = some (some (.nilFunc)) := by kernel_rfl
theorem sz_79 : (Try.prog.info? 79).map (·.size) = some 1 := by kernel_rfl
theorem zr_79 : (Try.prog.info? 79).map (·.zero) = some (some (.nilFunc)) := by kernel_rfl
theorem sz_80 : (Try.prog.info? 80).map (·.size) = some 1 := by kernel_rfl
theorem zr_80 : (Try.prog.info? 80).map (·.zero) = some (some (.nilFunc)) := by kernel_rfl
theorem sz_81 : (Try.prog.info? 81).map (·.size) = some 1 := by kernel_rfl
theorem zr_81 : (Try.prog.info? 81).map (·.zero) = some (some (.slice none 0 0)) := by kernel_rfl
theorem sz_82 : (Try.prog.info? 82).map (·.size) = some 1 := by kernel_rfl
theorem zr_82 : (Try.prog.info? 82).map (·.zero) = some (some (.slice none 0 0)) := by kernel_rfl
theorem sz_84 : (Try.prog.info? 84).map (·.size) = some 1 := by kernel_rfl
theorem zr_84 : (Try.prog.info? 84).map (·.zero) = some (some (.nilFunc)) := by kernel_rfl
theorem sz_85 : (Try.prog.info? 85).map (·.size) = some 1 := by kernel_rfl
theorem zr_85 : (Try.prog.info? 85).map (·.zero) = some (some (.nilFunc)) := by kernel_rfl
theorem sz_86 : (Try.prog.info? 86).map (·.size) = some 1 := by kernel_rfl
theorem zr_86 : (Try.prog.info? 86).map (·.zero) = some (some (.slice none 0 0)) := by kernel_rfl
theorem sz_87 : (Try.prog.info? 87).map (·.size) = some 1 := by kernel_rfl
theorem zr_87 : (Try.prog.info? 87).map (·.zero) = some (some (.int .u32 0)) := by kernel_rfl
theorem sz_88 : (Try.prog.info? 88).map (·.size) = some 1 := by kernel_rfl
theorem zr_88 : (Try.prog.info? 88).map (·.zero) = some (some (.nilFunc)) := by kernel_rfl
theorem sz_89 : (Try.prog.info? 89).map (·.size) = some 2 := by kernel_rfl
theorem zr_89 : (Try.prog.info? 89).map (·.zero) = some (some (.agg #[.int .i64 0, .int .i64 0])) := by kernel_rfl
theorem sz_90 : (Try.prog.info? 90).map (·.size) = some 2 := by kernel_rfl
theorem zr_90 : (Try.prog.info? 90).map (·.zero) = some (some (.agg #[.int .i64 0, .int .i64 0])) := by kernel_rfl
theorem sz_91 : (Try.prog.info? 91).map (·.size) = some 1 := by kernel_rfl
theorem zr_91 : (Try.prog.info? 91).map (·.zero) = some (some (.nilFunc)) := by kernel_rfl
theorem sz_93 : (Try.prog.info? 93).map (·.size) = some 1 := by kernel_rfl
theorem zr_93 : (Try.prog.info? 93).map (·.zero) = some (some (.nilFunc)) := by kernel_rfl
theorem sz_94 : (Try.prog.info? 94).map (·.size) = some 1 := by kernel_rfl
theorem zr_94 : (Try.prog.info? 94).map (·.zero) = some (some (.nilFunc)) := by kernel_rfl
theorem sz_95 : (Try.prog.info? 95).map (·.size) = some 1 := by kernel_rfl
theorem zr_95 : (Try.prog.info? 95).map (·.zero) = some (some (.nilFunc)) := by kernel_rfl
theorem sz_96 : (Try.prog.info? 96).map (·.size) = some 1 := by kernel_rfl
theorem zr_96 : (Try.prog.info? 96).map (·.zero) = some (some (.nilFunc)) := by kernel_rfl
theorem sz_97 : (Try.prog.info? 97).map (·.size) = some 1 := by kernel_rfl
theorem zr_97 : (Try.prog.info? 97).map (·.zero) = some (some (.slice none 0 0)) := by kernel_rfl
theorem sz_98 : (Try.prog.info? 98).map (·.size) = some 1 := by kernel_rfl
theorem zr_98 : (Try.prog.info? 98).map (·.zero) = some (some (.slice none 0 0)) := by kernel_rfl
theorem sz_99 : (Try.prog.info? 99).map (·.size) = some 4 := by kernel_rfl
theorem zr_99 : (Try.prog.info? 99).map (·.zero) = some (some (.agg #[.int .u16 0, .int .u16 0, .bool false, .slice none 0 0])) := by kernel_rfl
theorem sz_100 : (Try.prog.info? 100).map (·.size) = some 4 := by kernel_rfl
theorem zr_100 : (Try.prog.info? 100).map (·.zero) = some (some (.agg #[.int .u16 0, .int .u16 0, .bool false, .slice none 0 0])) := by kernel_rfl
theorem sz_101 : (Try.prog.info? 101).map (·.size) = some 1 := by kernel_rfl
theorem zr_101 : (Try.prog.info? 101).map (·.zero) = some (some (.nilFunc)) := by kernel_rfl
theorem sz_102 : (Try.prog.info? 102).map (·.size) = some 1 := by kernel_rfl
theorem zr_102 : (Try.prog.info? 102).map (·.zero) = some (some (.nilFunc)) := by kernel_rfl
theorem sz_103 : (Try.prog.info? 103).map (·.size) = some 1 := by kernel_rfl
theorem zr_103 : (Try.prog.info? 103).map (·.zero) = some (some (.map none)) := by kernel_rfl
theorem sz_104 : (Try.prog.info? 104).map (·.size) = some 1 := by kernel_rfl
theorem zr_104 : (Try.prog.info? 104).map (·.zero) = some (some (.map none)) := by kernel_rfl
theorem sz_105 : (Try.prog.info? 105).map (·.size) = some 7 := by kernel_rfl
theorem zr_105 : (Try.prog.info? 105).map (·.zero) = some (some (.agg #[.int .i64 0, .int .i64 0, .int .i64 0, .slice none 0 0, .map none, .map none, .map none])) := by kernel_rfl
theorem sz_106 : (Try.prog.info? 106).map (·.size) = some 7 := by kernel_rfl
theorem zr_106 : (Try.prog.info? 106).map (·.zero) = some (some (.agg #[.int .i64 0, .int .i64 0, .int .i64 0, .slice none 0 0, .map none, .map none, .map none])) := by kernel_rfl
theorem sz_108 : (Try.prog.info? 108).map (·.size) = some 1 := by kernel_rfl
theorem zr_108 : (Try.prog.info? 108).map (·.zero) = some (some (.nilFunc)) := by kernel_rfl
theorem sz_109 : (Try.prog.info? 109).map (·.size) = some 1 := by kernel_rfl
theorem zr_109 : (Try.prog.info? 109).map (·.zero) = some (some (.nilFunc)) := by kernel_rfl
theorem sz_110 : (Try.prog.info? 110).map (·.size) = some 1 := by kernel_rfl
theorem zr_110 : (Try.prog.info? 110).map (·.zero) = some (some (.nilFunc)) := by kernel_rfl
theorem sz_111 : (Try.prog.info? 111).map (·.size) = some 1 := by kernel_rfl
theorem zr_111 : (Try.prog.info? 111).map (·.zero) = some (some (.nilFunc)) := by kernel_rfl
theorem sz_112 : (Try.prog.info? 112).map (·.size) = some 1 := by kernel_rfl
theorem zr_112 : (Try.prog.info? 112).map (·.zero) = some (some (.nilFunc)) := by kernel_rfl
theorem sz_113 : (Try.prog.info? 113).map (·.size) = some 1 := by kernel_rfl
theorem zr_113 : (Try.prog.info? 113).map (·.zero) = some (some (.nilFunc)) := by kernel_rfl
theorem sz_114 : (Try.prog.info? 114).map (·.size) = some 1 := by kernel_rfl
theorem zr_114 : (Try.prog.info? 114).map (·.zero) = some (some (.nilFunc)) := by kernel_rfl
theorem sz_115 : (Try.prog.info? 115).map (·.size) = some 1 := by kernel_rfl
theorem zr_115 : (Try.prog.info? 115).map (·.zero) = some (some (.nilFunc)) := by kernel_rfl
theorem sz_116 : (Try.prog.info? 116).map (·.size) = some 1 := by kernel_rfl
theorem zr_116 : (Try.prog.info? 116).map (·.zero) = some (some (.nilFunc)) := by kernel_rfl
theorem sz_117 : (Try.prog.info? 117).map (·.size) = some 1 := by kernel_rfl
theorem zr_117 : (Try.prog.info? 117).map (·.zero) = some (some (.nilFunc)) := by kernel_rfl
theorem sz_118 : (Try.prog.info? 118).map (·.size) = some 1 := by kernel_rfl
theorem zr_118 : (Try.prog.info? 118).map (·.zero) = some (some (.nilFunc)) := by kernel_rfl
theorem sz_119 : (Try.prog.info? 119).map (·.size) = some 1 := by kernel_rfl
theorem zr_119 : (Try.prog.info? 119).map (·.zero) = some (some (.nilFunc)) := by kernel_rfl
theorem sz_120 : (Try.prog.info? 120).map (·.size) = some 1 := by kernel_rfl
theorem zr_120 : (Try.prog.info? 120).map (·.zero) = some (some (.nilFunc)) := by kernel_rfl
theorem sz_121 : (Try.prog.info? 121).map (·.size) = some 1 := by kernel_rfl
theorem zr_121 : (Try.prog.info? 121).map (·.zero) = some (some (.nilFunc)) := by kernel_rfl
theorem sz_122 : (Try.prog.info? 122).map (·.size) = some 1 := by kernel_rfl
theorem zr_122 : (Try.prog.info? 122).map (·.zero) = some (some (.nilFunc)) := by kernel_rfl
theorem sz_123 : (Try.prog.info? 123).map (·.size) = some 1 := by kernel_rfl
theorem zr_123 : (Try.prog.info? 123).map (·.zero) = some (some (.nilFunc)) := by kernel_rfl
theorem sz_124 : (Try.prog.info? 124).map (·.size) = some 1 := by kernel_rfl
theorem zr_124 : (Try.prog.info? 124).map (·.zero) = some (some (.nilFunc)) := by kernel_rfl
theorem sz_125 : (Try.prog.info? 125).map (·.size) = some 1 := by kernel_rfl
theorem zr_125 : (Try.prog.info? 125).map (·.zero) = some (some (.nilFunc)) := by kernel_rfl
theorem sz_126 : (Try.prog.info? 126).map (·.size) = some 1 := by kernel_rfl
theorem zr_126 : (Try.prog.info? 126).map (·.zero) = some (some (.nilFunc)) := by kernel_rfl
theorem sz_127 : (Try.prog.info? 127).map (·.size) = some 1 := by kernel_rfl
theorem zr_127 : (Try.prog.info? 127).map (·.zero) = some (some (.agg #[.map none])) := by kernel_rfl
theorem sz_128 : (Try.prog.info? 128).map (·.size) = some 1 := by kernel_rfl
theorem zr_128 : (Try.prog.info? 128).map (·.zero) = some (some (.agg #[.map none])) := by kernel_rfl
theorem sz_130 : (Try.prog.info? 130).map (·.size) = some 1 := by kernel_rfl
theorem zr_130 : (Try.prog.info? 130).map (·.zero) = some (some (.nilFunc)) := by kernel_rfl
theorem sz_131 : (Try.prog.info? 131).map (·.size) = some 1 := by kernel_rfl
theorem zr_131 : (Try.prog.info? 131).map (·.zero) = some (some (.nilFunc)) := by kernel_rfl
theorem sz_132 : (Try.prog.info? 132).map (·.size) = some 1 := by kernel_rfl
theorem zr_132 : (Try.prog.info? 132).map (·.zero) = some (some (.nilFunc)) := by kernel_rfl
theorem sz_133 : (Try.prog.info? 133).map (·.size) = some 1 := by kernel_rfl
theorem zr_133 : (Try.prog.info? 133).map (·.zero) = some (some (.nilFunc)) := by kernel_rfl
theorem sz_134 : (Try.prog.info? 134).map (·.size) = some 1 := by kernel_rfl
theorem zr_134 : (Try.prog.info? 134).map (·.zero) = some (some (.nilFunc)) := by kernel_rfl
theorem sz_135 : (Try.prog.info? 135).map (·.size) = some 1 := by kernel_rfl
theorem zr_135 : (Try.prog.info? 135).map (·.zero) = some (some (.slice none 0 0)) := by kernel_rfl
theorem sz_136 : (Try.prog.info? 136).map (·.size) = some 1 := by kernel_rfl
theorem zr_136 : (Try.prog.info? 136).map (·.zero) = some (some (.nilFunc)) := by kernel_rfl
theorem sz_137 : (Try.prog.info? 137).map (·.size) = some 1 := by kernel_rfl
theorem zr_137 : (Try.prog.info? 137).map (·.zero) = some (some (.nilFunc)) := by kernel_rfl
theorem sz_138 : (Try.prog.info? 138).map (·.size) = some 3 := by kernel_rfl
theorem zr_138 : (Try.prog.info? 138).map (·.zero) = some (some (.agg #[.int .u32 0, .int .i64 0, .int .i64 0])) := by kernel_rfl
theorem sz_139 : (Try.prog.info? 139).map (·.size) = some 3 := by kernel_rfl
theorem zr_139 : (Try.prog.info? 139).map (·.zero) = some (some (.agg #[.int .u32 0, .int .i64 0, .int .i64 0])) := by kernel_rfl
theorem sz_140 : (Try.prog.info? 140).map (·.size) = some 1 := by kernel_rfl
theorem zr_140 : (Try.prog.info? 140).map (·.zero) = some (some (.nilFunc)) := by kernel_rfl
theorem sz_141 : (Try.prog.info? 141).map (·.size) = some 1 := by kernel_rfl
theorem zr_141 : (Try.prog.info? 141).map (·.zero) = some (some (.nilFunc)) := by kernel_rfl
theorem sz_142 : (Try.prog.info? 142).map (·.size) = some 1 := by kernel_rfl
theorem zr_142 : (Try.prog.info? 142).map (·.zero) = some (some (.nilFunc)) := by kernel_rfl
theorem sz_143 : (Try.prog.info? 143).map (·.size) = some 1 := by kernel_rfl
theorem zr_143 : (Try.prog.info? 143).map (·.zero) = some (some (.nilFunc)) := by kernel_rfl
theorem sz_144 : (Try.prog.info? 144).map (·.size) = some 1 := by kernel_rfl
theorem zr_144 : (Try.prog.info? 144).map (·.zero) = some (some (.nilFunc)) := by kernel_rfl
theorem sz_145 : (Try.prog.info? 145).map (·.size) = some 1 := by kernel_rfl
theorem zr_145 : (Try.prog.info? 145).map (·.zero) = some (some (.nilFunc)) := by kernel_rfl
theorem sz_146 : (Try.prog.info? 146).map (·.size) = some 3 := by kernel_rfl
theorem zr_146 : (Try.prog.info? 146).map (·.zero) = some (some (.agg #[.slice none 0 0, .int .i64 0, .int .i64 0])) := by kernel_rfl
theorem sz_147 : (Try.prog.info? 147).map (·.size) = some 3 := by kernel_rfl
theorem zr_147 : (Try.prog.info? 147).map (·.zero) = some (some (.agg #[.slice none 0 0, .int .i64 0, .int .i64 0])) := by kernel_rfl
theorem sz_148 : (Try.prog.info? 148).map (·.size) = some 1 := by kernel_rfl
theorem zr_148 : (Try.prog.info? 148).map (·.zero) = some (some (.nilFunc)) := by kernel_rfl
theorem sz_149 : (Try.prog.info? 149).map (·.size) = some 2 := by kernel_rfl
theorem zr_149 : (Try.prog.info? 149).map (·.zero) = some (some (.agg #[.int .u8 0, .int .u8 0])) := by kernel_rfl
theorem sz_150 : (Try.prog.info? 150).map (·.size) = some 1 := by kernel_rfl
theorem zr_150 : (Try.prog.info? 150).map (·.zero) = some (some (.nilFunc)) := by kernel_rfl
theorem sz_151 : (Try.prog.info? 151).map (·.size) = some 1 := by kernel_rfl
theorem zr_151 : (Try.prog.info? 151).map (·.zero) = some (some (.nilFunc)) := by kernel_rfl
theorem sz_152 : (Try.prog.info? 152).map (·.size) = some 1 := by kernel_rfl
theorem zr_152 : (Try.prog.info? 152).map (·.zero) = some (some (.nilFunc)) := by kernel_rfl
theorem sz_153 : (Try.prog.info? 153).map (·.size) = some 1 := by kernel_rfl
theorem zr_153 : (Try.prog.info? 153).map (·.zero) = some (some (.nilFunc)) := by kernel_rfl
theorem sz_154 : (Try.prog.info? 154).map (·.size) = some 1 := by kernel_rfl
theorem zr_154 : (Try.prog.info? 154).map (·.zero) = some (some (.nilFunc)) := by kernel_rfl
theorem sz_155 : (Try.prog.info? 155).map (·.size) = some 1 := by kernel_rfl
theorem zr_155 : (Try.prog.info? 155).map (·.zero) = some (some (.nilFunc)) := by kernel_rfl
theorem sz_156 : (Try.prog.info? 156).map (·.size) = some 1 := by kernel_rfl
theorem zr_156 : (Try.prog.info? 156).map (·.zero) = some (some (.nilFunc)) := by kernel_rfl
theorem sz_157 : (Try.prog.info? 157).map (·.size) = some 1 := by kernel_rfl
theorem zr_157 : (Try.prog.info? 157).map (·.zero) = some (some (.nilFunc)) := by kernel_rfl
theorem sz_158 : (Try.prog.info? 158).map (·.size) = some 1 := by kernel_rfl
theorem zr_158 : (Try.prog.info? 158).map (·.zero) = some (some (.nilFunc)) := by kernel_rfl
theorem sz_159 : (Try.prog.info? 159).map (·.size) = some 1 := by kernel_rfl
theorem zr_159 : (Try.prog.info? 159).map (·.zero) = some (some (.nilFunc)) := by kernel_rfl
theorem sz_160 : (Try.prog.info? 160).map (·.size) = some 1 := by kernel_rfl
theorem zr_160 : (Try.prog.info? 160).map (·.zero) = some (some (.nilFunc)) := by kernel_rfl
theorem sz_161 : (Try.prog.info? 161).map (·.size) = some 1 := by kernel_rfl
theorem zr_161 : (Try.prog.info? 161).map (·.zero) = some (some (.nilFunc)) := by kernel_rfl
theorem sz_162 : (Try.prog.info? 162).map (·.size) = some 1 := by kernel_rfl
theorem zr_162 : (Try.prog.info? 162).map (·.zero) = some (some (.nilFunc)) := by kernel_rfl
theorem sz_163 : (Try.prog.info? 163).map (·.size) = some 1 := by kernel_rfl
theorem zr_163 : (Try.prog.info? 163).map (·.zero) = some (some (.nilFunc)) := by kernel_rfl
theorem sz_164 : (Try.prog.info? 164).map (·.size) = some 1 := by kernel_rfl
theorem zr_164 : (Try.prog.info? 164).map (·.zero) = some (some (.nilFunc)) := by kernel_rfl
theorem sz_165 : (Try.prog.info? 165).map (·.size) = some 1 := by kernel_rfl
theorem zr_165 : (Try.prog.info? 165).map (·.zero) = some (some (.nilFunc)) := by kernel_rfl
theorem sz_166 : (Try.prog.info? 166).map (·.size) = some 1 := by kernel_rfl
theorem zr_166 : (Try.prog.info? 166).map (·.zero) = some (some (.nilFunc)) := by kernel_rfl
theorem sz_167 : (Try.prog.info? 167).map (·.size) = some 1 := by kernel_rfl
theorem zr_167 : (Try.prog.info? 167).map (·.zero) = some (some (.nilFunc)) := by kernel_rfl
theorem sz_168 : (Try.prog.info? 168).map (·.size) = some 1 := by kernel_rfl
theorem zr_168 : (Try.prog.info? 168).map (·.zero) = some (some (.int .u64 0)) := by kernel_rfl
theorem sz_169 : (Try.prog.info? 169).map (·.size) = some 1 := by kernel_rfl
theorem zr_169 : (Try.prog.info? 169).map (·.zero) = some (some (.nilFunc)) := by kernel_rfl
theorem sz_170 : (Try.prog.info? 170).map (·.size) = some 1 := by kernel_rfl
theorem zr_170 : (Try.prog.info? 170).map (·.zero) = some (some (.nilFunc)) := by kernel_rfl
theorem sz_171 : (Try.prog.info? 171).map (·.size) = some 1 := by kernel_rfl
theorem zr_171 : (Try.prog.info? 171).map (·.zero) = some (some (.nilFunc)) := by kernel_rfl
theorem sz_172 : (Try.prog.info? 172).map (·.size) = some 1 := by kernel_rfl
theorem zr_172 : (Try.prog.info? 172).map (·.zero) = some (some (.nilFunc)) := by kernel_rfl
theorem sz_173 : (Try.prog.info? 173).map (·.size) = some 1 := by kernel_rfl
theorem zr_173 : (Try.prog.info? 173).map (·.zero) = some (some (.slice none 0 0)) := by kernel_rfl
theorem sz_174 : (Try.prog.info? 174).map (·.size) = some 1 := by kernel_rfl
theorem zr_174 : (Try.prog.info? 174).map (·.zero) = some (some (.nilFunc)) := by kernel_rfl
theorem sz_175 : (Try.prog.info? 175).map (·.size) = some 1 := by kernel_rfl
theorem zr_175 : (Try.prog.info? 175).map (·.zero) = some (some (.nilFunc)) := by kernel_rfl
theorem sz_176 : (Try.prog.info? 176).map (·.size) = some 1 := by kernel_rfl
theorem zr_176 : (Try.prog.info? 176).map (·.zero) = some (some (.nilFunc)) := by kernel_rfl
theorem sz_177 : (Try.prog.info? 177).map (·.size) = some 1 := by kernel_rfl
theorem zr_177 : (Try.prog.info? 177).map (·.zero) = some (some (.int .i64 0)) := by kernel_rfl
theorem sz_179 : (Try.prog.info? 179).map (·.size) = some 1 := by kernel_rfl
theorem zr_179 : (Try.prog.info? 179).map (·.zero) = some (some (.nilFunc)) := by kernel_rfl
theorem sz_180 : (Try.prog.info? 180).map (·.size) = some 1 := by kernel_rfl
theorem zr_180 : (Try.prog.info? 180).map (·.zero) = some (some (.nilFunc)) := by kernel_rfl
theorem sz_181 : (Try.prog.info? 181).map (·.size) = some 1 := by kernel_rfl
theorem zr_181 : (Try.prog.info? 181).map (·.zero) = some (some (.nilFunc)) := by kernel_rfl
theorem sz_183 : (Try.prog.info? 183).map (·.size) = some 1 := by kernel_rfl
theorem zr_183 : (Try.prog.info? 183).map (·.zero) = some (some (.nilFunc)) := by kernel_rfl
theorem sz_184 : (Try.prog.info? 184).map (·.size) = some 1 := by kernel_rfl
theorem zr_184 : (Try.prog.info? 184).map (·.zero) = some (some (.nilFunc)) := by kernel_rfl
theorem sz_185 : (Try.prog.info? 185).map (·.size) = some 1 := by kernel_rfl
theorem zr_185 : (Try.prog.info? 185).map (·.zero) = some (some (.nilFunc)) := by kernel_rfl
theorem sz_186 : (Try.prog.info? 186).map (·.size) = some 1 := by kernel_rfl
theorem zr_186 : (Try.prog.info? 186).map (·.zero) = some (some (.int .u64 0)) := by kernel_rfl
theorem sz_187 : (Try.prog.info? 187).map (·.size) = some 1 := by kernel_rfl
theorem zr_187 : (Try.prog.info? 187).map (·.zero) = some (some (.nilFunc)) := by kernel_rfl
theorem sz_188 : (Try.prog.info? 188).map (·.size) = some 1 := by kernel_rfl
theorem zr_188 : (Try.prog.info? 188).map (·.zero) = some (some (.nilFunc)) := by kernel_rfl
theorem sz_189 : (Try.prog.info? 189).map (·.size) = some 1 := by kernel_rfl
theorem zr_189 : (Try.prog.info? 189).map (·.zero) = some (some (.nilFunc)) := by kernel_rfl
theorem sz_190 : (Try.prog.info? 190).map (·.size) = some 1 := by kernel_rfl
theorem zr_190 : (Try.prog.info? 190).map (·.zero) = some (some (.nilFunc)) := by kernel_rfl
theorem sz_191 : (Try.prog.info? 191).map (·.size) = some 1 := by kernel_rfl
theorem zr_191 : (Try.prog.info? 191).map (·.zero) = some (some (.nilFunc)) := by kernel_rfl
theorem sz_192 : (Try.prog.info? 192).map (·.size) = some 1 := by kernel_rfl
theorem zr_192 : (Try.prog.info? 192).map (·.zero) = some (some (.nilFunc)) := by kernel_rfl
theorem sz_193 : (Try.prog.info? 193).map (·.size) = some 1 := by kernel_rfl
theorem zr_193 : (Try.prog.info? 193).map (·.zero) = some (some (.nilFunc)) := by kernel_rfl
theorem sz_194 : (Try.prog.info? 194).map (·.size) = some 1 := by kernel_rfl
theorem zr_194 : (Try.prog.info? 194).map (·.zero) = some (some (.int .u64 0)) := by kernel_rfl
theorem sz_195 : (Try.prog.info? 195).map (·.size) = some 1 := by kernel_rfl
theorem zr_195 : (Try.prog.info? 195).map (·.zero) = some (some (.nilFunc)) := by kernel_rfl
theorem sz_196 : (Try.prog.info? 196).map (·.size) = some 1 := by kernel_rfl
theorem zr_196 : (Try.prog.info? 196).map (·.zero) = some (some (.nilFunc)) := by kernel_rfl
theorem sz_197 : (Try.prog.info? 197).map (·.size) = some 1 := by kernel_rfl
theorem zr_197 : (Try.prog.info? 197).map (·.zero) = some (some (.nilFunc)) := by kernel_rfl
theorem sz_198 : (Try.prog.info? 198).map (·.size) = some 1 := by kernel_rfl
theorem zr_198 : (Try.prog.info? 198).map (·.zero) = some (some (.pointer none)) := by kernel_rfl
theorem sz_199 : (Try.prog.info? 199).map (·.size) = some 1 := by kernel_rfl
theorem zr_199 : (Try.prog.info? 199).map (·.zero) = some (some (.nilFunc)) := by kernel_rfl
theorem sz_200 : (Try.prog.info? 200).map (·.size) = some 1 := by kernel_rfl
theorem zr_200 : (Try.prog.info? 200).map (·.zero) = some (some (.nilFunc)) := by kernel_rfl
theorem sz_201 : (Try.prog.info? 201).map (·.size) = some 1 := by kernel_rfl
theorem zr_201 : (Try.prog.info? 201).map (·.zero) = some (some (.nilFunc)) := by kernel_rfl
theorem sz_202 : (Try.prog.info? 202).map (·.size) = some 1 := by kernel_rfl
theorem zr_202 : (Try.prog.info? 202).map (·.zero) = some (some (.pointer none)) := by kernel_rfl
theorem sz_204 : (Try.prog.info? 204).map (·.size) = some 1 := by kernel_rfl
theorem zr_204 : (Try.prog.info? 204).map (·.zero) = some (some (.nilFunc)) := by kernel_rfl
theorem sz_205 : (Try.prog.info? 205).map (·.size) = some 1 := by kernel_rfl
theorem zr_205 : (Try.prog.info? 205).map (·.zero) = some (some (.nilFunc)) := by kernel_rfl
theorem sz_206 : (Try.prog.info? 206).map (·.size) = some 1 := by kernel_rfl
theorem zr_206 : (Try.prog.info? 206).map (·.zero) = some (some (.nilFunc)) := by kernel_rfl
theorem sz_207 : (Try.prog.info? 207).map (·.size) = some 4 := by kernel_rfl
theorem zr_207 : (Try.prog.info? 207).map (·.zero) = some (some (.agg #[.pointer none, .pointer none, .pointer none, .string ByteArray.empty])) := by kernel_rfl
theorem sz_208 : (Try.prog.info? 208).map (·.size) = some 4 := by kernel_rfl
theorem zr_208 : (Try.prog.info? 208).map (·.zero) = some (some (.agg #[.pointer none, .pointer none, .pointer none, .string ByteArray.empty])) := by kernel_rfl
theorem sz_209 : (Try.prog.info? 209).map (·.size) = some 0 := by kernel_rfl
theorem zr_209 : (Try.prog.info? 209).map (·.zero) = some (some (.agg #[])) := by kernel_rfl
theorem sz_210 : (Try.prog.info? 210).map (·.size) = some 0 := by kernel_rfl
theorem zr_210 : (Try.prog.info? 210).map (·.zero) = some (some (.agg #[])) := by kernel_rfl
theorem sz_211 : (Try.prog.info? 211).map (·.size) = some 0 := by kernel_rfl
theorem zr_211 : (Try.prog.info? 211).map (·.zero) = some (some (.agg #[])) := by kernel_rfl
theorem sz_212 : (Try.prog.info? 212).map (·.size) = some 1 := by kernel_rfl
theorem zr_212 : (Try.prog.info? 212).map (·.zero) = some (some (.int .u8 0)) := by kernel_rfl
theorem sz_213 : (Try.prog.info? 213).map (·.size) = some 1 := by kernel_rfl
theorem zr_213 : (Try.prog.info? 213).map (·.zero) = some (some (.int .u8 0)) := by kernel_rfl
theorem sz_214 : (Try.prog.info? 214).map (·.size) = some 1 := by kernel_rfl
theorem zr_214 : (Try.prog.info? 214).map (·.zero) = some (some (.nilFunc)) := by kernel_rfl
theorem sz_215 : (Try.prog.info? 215).map (·.size) = some 1 := by kernel_rfl
theorem zr_215 : (Try.prog.info? 215).map (·.zero) = some (some (.pointer none)) := by kernel_rfl
theorem sz_216 : (Try.prog.info? 216).map (·.size) = some 1 := by kernel_rfl
theorem zr_216 : (Try.prog.info? 216).map (·.zero) = some (some (.int .i32 0)) := by kernel_rfl
theorem sz_217 : (Try.prog.info? 217).map (·.size) = some 1 := by kernel_rfl
theorem zr_217 : (Try.prog.info? 217).map (·.zero) = some (some (.int .i32 0)) := by kernel_rfl
theorem sz_218 : (Try.prog.info? 218).map (·.size) = some 11 := by kernel_rfl
theorem zr_218 : (Try.prog.info? 218).map (·.zero) = some (some (.agg #[.int .u64 0, .int .u64 0, .int .u32 0, .int .u8 0, .int .u8 0, .int .u8 0, .int .u8 0, .nilFunc, .pointer none, .int .i32 0, .int .i32 0])) := by kernel_rfl
theorem sz_219 : (Try.prog.info? 219).map (·.size) = some 11 := by kernel_rfl
theorem zr_219 : (Try.prog.info? 219).map (·.zero) = some (some (.agg #[.int .u64 0, .int .u64 0, .int .u32 0, .int .u8 0, .int .u8 0, .int .u8 0, .int .u8 0, .nilFunc, .pointer none, .int .i32 0, .int .i32 0])) := by kernel_rfl
theorem zs_2 : (Try.prog.info? 2).map (fun i => (i.zero, i.size)) = some (some (.int .i64 0), 1) := by kernel_rfl
theorem zb_2 : (Try.prog.info? 2).map (fun i => (i.zero, i.size, i.bytes)) = some (some (.int .i64 0), 1, 8) := by kernel_rfl
theorem zs_3 : (Try.prog.info? 3).map (fun i => (i.zero, i.size)) = some (some (.int .i64 0), 1) := by kernel_rfl
theorem zb_3 : (Try.prog.info? 3).map (fun i => (i.zero, i.size, i.bytes)) = some (some (.int .i64 0), 1, 8) := by kernel_rfl
theorem zs_4 : (Try.prog.info? 4).map (fun i => (i.zero, i.size)) = some (some (.bool false), 1) := by kernel_rfl
theorem zb_4 : (Try.prog.info? 4).map (fun i => (i.zero, i.size, i.bytes)) = some (some (.bool false), 1, 1) := by kernel_rfl
theorem zs_26 : (Try.prog.info? 26).map (fun i => (i.zero, i.size)) = some (some (.int .i64 0), 1) := by kernel_rfl
theorem zb_26 : (Try.prog.info? 26).map (fun i => (i.zero, i.size, i.bytes)) = some (some (.int .i64 0), 1, 8) := by kernel_rfl
theorem zs_31 : (Try.prog.info? 31).map (fun i => (i.zero, i.size)) = some (some (.agg #[.int .i64 0, .int .i64 0, .int .i64 0, .int .i64 0, .int .i64 0]), 5) := by kernel_rfl
theorem zb_31 : (Try.prog.info? 31).map (fun i => (i.zero, i.size, i.bytes)) = some (some (.agg #[.int .i64 0, .int .i64 0, .int .i64 0, .int .i64 0, .int .i64 0]), 5, 40) := by kernel_rfl
theorem zs_33 : (Try.prog.info? 33).map (fun i => (i.zero, i.size)) = some (some (.agg #[.int .u8 0, .int .u8 0, .int .u8 0, .int .u8 0, .int .u8 0]), 5) := by kernel_rfl
theorem zb_33 : (Try.prog.info? 33).map (fun i => (i.zero, i.size, i.bytes)) = some (some (.agg #[.int .u8 0, .int .u8 0, .int .u8 0, .int .u8 0, .int .u8 0]), 5, 5) := by kernel_rfl
theorem zs_44 : (Try.prog.info? 44).map (fun i => (i.zero, i.size)) = some (some (.agg #[.int .i64 0, .int .i64 0, .int .i64 0, .int .i64 0, .int .i64 0, .bool false, .int .i64 0]), 7) := by kernel_rfl
theorem zb_44 : (Try.prog.info? 44).map (fun i => (i.zero, i.size, i.bytes)) = some (some (.agg #[.int .i64 0, .int .i64 0, .int .i64 0, .int .i64 0, .int .i64 0, .bool false, .int .i64 0]), 7, 56) := by kernel_rfl
theorem zs_50 : (Try.prog.info? 50).map (fun i => (i.zero, i.size)) = some (some (.agg #[.int .u8 0, .int .u8 0, .int .u8 0]), 3) := by kernel_rfl
theorem zb_50 : (Try.prog.info? 50).map (fun i => (i.zero, i.size, i.bytes)) = some (some (.agg #[.int .u8 0, .int .u8 0, .int .u8 0]), 3, 3) := by kernel_rfl
theorem zs_60 : (Try.prog.info? 60).map (fun i => (i.zero, i.size)) = some (some (.agg #[.int .u8 0, .int .i64 0, .int .i64 0, .int .i64 0, .int .i64 0, .int .i64 0, .int .i64 0, .int .i64 0, .int .i64 0, .slice none 0 0]), 10) := by kernel_rfl
theorem zb_60 : (Try.prog.info? 60).map (fun i => (i.zero, i.size, i.bytes)) = some (some (.agg #[.int .u8 0, .int .i64 0, .int .i64 0, .int .i64 0, .int .i64 0, .int .i64 0, .int .i64 0, .int .i64 0, .int .i64 0, .slice none 0 0]), 10, 96) := by kernel_rfl
theorem zs_65 : (Try.prog.info? 65).map (fun i => (i.zero, i.size)) = some (some (.agg #[.int .i64 0, .int .i64 0]), 2) := by kernel_rfl
theorem zb_65 : (Try.prog.info? 65).map (fun i => (i.zero, i.size, i.bytes)) = some (some (.agg #[.int .i64 0, .int .i64 0]), 2, 16) := by kernel_rfl
theorem zs_90 : (Try.prog.info? 90).map (fun i => (i.zero, i.size)) = some (some (.agg #[.int .i64 0, .int .i64 0]), 2) := by kernel_rfl
theorem zb_90 : (Try.prog.info? 90).map (fun i => (i.zero, i.size, i.bytes)) = some (some (.agg #[.int .i64 0, .int .i64 0]), 2, 16) := by kernel_rfl
theorem zs_100 : (Try.prog.info? 100).map (fun i => (i.zero, i.size)) = some (some (.agg #[.int .u16 0, .int .u16 0, .bool false, .slice none 0 0]), 4) := by kernel_rfl
theorem zb_100 : (Try.prog.info? 100).map (fun i => (i.zero, i.size, i.bytes)) = some (some (.agg #[.int .u16 0, .int .u16 0, .bool false, .slice none 0 0]), 4, 32) := by kernel_rfl
theorem zs_139 : (Try.prog.info? 139).map (fun i => (i.zero, i.size)) = some (some (.agg #[.int .u32 0, .int .i64 0, .int .i64 0]), 3) := by kernel_rfl
theorem zb_139 : (Try.prog.info? 139).map (fun i => (i.zero, i.size, i.bytes)) = some (some (.agg #[.int .u32 0, .int .i64 0, .int .i64 0]), 3, 24) := by kernel_rfl
theorem zs_149 : (Try.prog.info? 149).map (fun i => (i.zero, i.size)) = some (some (.agg #[.int .u8 0, .int .u8 0]), 2) := by kernel_rfl
theorem zb_149 : (Try.prog.info? 149).map (fun i => (i.zero, i.size, i.bytes)) = some (some (.agg #[.int .u8 0, .int .u8 0]), 2, 2) := by kernel_rfl
theorem mixed : Try.prog.follows .mixedOrders = true := by kernel_rfl
end Go.Proofs.Ytjhbgciocffihaa
