/- TH: what the types of seat e are. Printed by facts.sh. -/
import Derived.Test.YtfnflalnjigfkaaTf2
import Derived.Test.YtfnflalnjigfkaaProg
namespace Go.TH
open Go Go.Proofs
@[go_sem] theorem und0 : (Try.prog.underlying 0).isSome = true := by kernel_rfl
@[go_sem] theorem as0 : tyAS Try.prog 0 = some (false, 1) := by kernel_rfl
@[go_sem] theorem sl0 : tySl Try.prog 0 = none := by kernel_rfl
@[go_sem] theorem int0 : tyInt Try.prog 0 = none := by kernel_rfl
@[go_sem] theorem str0 : tyStr Try.prog 0 = false := by kernel_rfl
@[go_sem] theorem bool0 : tyBool Try.prog 0 = false := by kernel_rfl
@[go_sem] theorem und1 : (Try.prog.underlying 1).isSome = true := by kernel_rfl
@[go_sem] theorem as1 : tyAS Try.prog 1 = some (false, 1) := by kernel_rfl
@[go_sem] theorem sl1 : tySl Try.prog 1 = none := by kernel_rfl
@[go_sem] theorem int1 : tyInt Try.prog 1 = none := by kernel_rfl
@[go_sem] theorem str1 : tyStr Try.prog 1 = false := by kernel_rfl
@[go_sem] theorem bool1 : tyBool Try.prog 1 = false := by kernel_rfl
@[go_sem] theorem z1 : tyZ Try.prog 1 = some ((.junk) :: []) := by kernel_rfl
@[go_sem] theorem und2 : (Try.prog.underlying 2).isSome = true := by kernel_rfl
@[go_sem] theorem as2 : tyAS Try.prog 2 = some (false, 1) := by kernel_rfl
@[go_sem] theorem sl2 : tySl Try.prog 2 = none := by kernel_rfl
@[go_sem] theorem int2 : tyInt Try.prog 2 = some (.i64) := by kernel_rfl
@[go_sem] theorem str2 : tyStr Try.prog 2 = false := by kernel_rfl
@[go_sem] theorem bool2 : tyBool Try.prog 2 = false := by kernel_rfl
@[go_sem] theorem z2 : tyZ Try.prog 2 = some ((.int .i64 (0)) :: []) := by kernel_rfl
@[go_sem] theorem und3 : (Try.prog.underlying 3).isSome = true := by kernel_rfl
@[go_sem] theorem as3 : tyAS Try.prog 3 = some (false, 1) := by kernel_rfl
@[go_sem] theorem sl3 : tySl Try.prog 3 = none := by kernel_rfl
@[go_sem] theorem int3 : tyInt Try.prog 3 = some (.i64) := by kernel_rfl
@[go_sem] theorem str3 : tyStr Try.prog 3 = false := by kernel_rfl
@[go_sem] theorem bool3 : tyBool Try.prog 3 = false := by kernel_rfl
@[go_sem] theorem z3 : tyZ Try.prog 3 = some ((.int .i64 (0)) :: []) := by kernel_rfl
@[go_sem] theorem und4 : (Try.prog.underlying 4).isSome = true := by kernel_rfl
@[go_sem] theorem as4 : tyAS Try.prog 4 = some (false, 1) := by kernel_rfl
@[go_sem] theorem sl4 : tySl Try.prog 4 = none := by kernel_rfl
@[go_sem] theorem int4 : tyInt Try.prog 4 = none := by kernel_rfl
@[go_sem] theorem str4 : tyStr Try.prog 4 = false := by kernel_rfl
@[go_sem] theorem bool4 : tyBool Try.prog 4 = true := by kernel_rfl
@[go_sem] theorem z4 : tyZ Try.prog 4 = some ((.bool false) :: []) := by kernel_rfl
@[go_sem] theorem und5 : (Try.prog.underlying 5).isSome = true := by kernel_rfl
@[go_sem] theorem as5 : tyAS Try.prog 5 = some (false, 1) := by kernel_rfl
@[go_sem] theorem sl5 : tySl Try.prog 5 = none := by kernel_rfl
@[go_sem] theorem int5 : tyInt Try.prog 5 = some (.u8) := by kernel_rfl
@[go_sem] theorem str5 : tyStr Try.prog 5 = false := by kernel_rfl
@[go_sem] theorem bool5 : tyBool Try.prog 5 = false := by kernel_rfl
@[go_sem] theorem z5 : tyZ Try.prog 5 = some ((.int .u8 (0)) :: []) := by kernel_rfl
@[go_sem] theorem und6 : (Try.prog.underlying 6).isSome = true := by kernel_rfl
@[go_sem] theorem as6 : tyAS Try.prog 6 = some (false, 1) := by kernel_rfl
@[go_sem] theorem sl6 : tySl Try.prog 6 = none := by kernel_rfl
@[go_sem] theorem int6 : tyInt Try.prog 6 = some (.u8) := by kernel_rfl
@[go_sem] theorem str6 : tyStr Try.prog 6 = false := by kernel_rfl
@[go_sem] theorem bool6 : tyBool Try.prog 6 = false := by kernel_rfl
@[go_sem] theorem z6 : tyZ Try.prog 6 = some ((.int .u8 (0)) :: []) := by kernel_rfl
@[go_sem] theorem und7 : (Try.prog.underlying 7).isSome = true := by kernel_rfl
@[go_sem] theorem as7 : tyAS Try.prog 7 = some (true, 4) := by kernel_rfl
@[go_sem] theorem sl7 : tySl Try.prog 7 = none := by kernel_rfl
@[go_sem] theorem int7 : tyInt Try.prog 7 = none := by kernel_rfl
@[go_sem] theorem str7 : tyStr Try.prog 7 = false := by kernel_rfl
@[go_sem] theorem bool7 : tyBool Try.prog 7 = false := by kernel_rfl
@[go_sem] theorem z7 : tyZ Try.prog 7 = some ((.int .i64 (0)) :: (.int .i64 (0)) :: (.bool false) :: (.int .u8 (0)) :: []) := by kernel_rfl
@[go_sem] theorem fs7 : tyFs Try.prog 7 = some ((0, 1) :: (1, 1) :: (2, 1) :: (3, 1) :: []) := by kernel_rfl
@[go_sem] theorem eq7 : tyEq Try.prog 7 = some ((.int .i64) :: (.int .i64) :: (.bool) :: (.int .u8) :: []) := by kernel_rfl
@[go_sem] theorem fld7_0 : tyFld Try.prog 7 0 = some (0, 1, false) := by kernel_rfl
@[go_sem] theorem fld7_1 : tyFld Try.prog 7 1 = some (1, 1, false) := by kernel_rfl
@[go_sem] theorem fld7_2 : tyFld Try.prog 7 2 = some (2, 1, false) := by kernel_rfl
@[go_sem] theorem fld7_3 : tyFld Try.prog 7 3 = some (3, 1, false) := by kernel_rfl
@[go_sem] theorem und8 : (Try.prog.underlying 8).isSome = true := by kernel_rfl
@[go_sem] theorem as8 : tyAS Try.prog 8 = some (true, 4) := by kernel_rfl
@[go_sem] theorem sl8 : tySl Try.prog 8 = none := by kernel_rfl
@[go_sem] theorem int8 : tyInt Try.prog 8 = none := by kernel_rfl
@[go_sem] theorem str8 : tyStr Try.prog 8 = false := by kernel_rfl
@[go_sem] theorem bool8 : tyBool Try.prog 8 = false := by kernel_rfl
@[go_sem] theorem z8 : tyZ Try.prog 8 = some ((.int .i64 (0)) :: (.int .i64 (0)) :: (.bool false) :: (.int .u8 (0)) :: []) := by kernel_rfl
@[go_sem] theorem fs8 : tyFs Try.prog 8 = some ((0, 1) :: (1, 1) :: (2, 1) :: (3, 1) :: []) := by kernel_rfl
@[go_sem] theorem eq8 : tyEq Try.prog 8 = some ((.int .i64) :: (.int .i64) :: (.bool) :: (.int .u8) :: []) := by kernel_rfl
@[go_sem] theorem fld8_0 : tyFld Try.prog 8 0 = some (0, 1, false) := by kernel_rfl
@[go_sem] theorem fld8_1 : tyFld Try.prog 8 1 = some (1, 1, false) := by kernel_rfl
@[go_sem] theorem fld8_2 : tyFld Try.prog 8 2 = some (2, 1, false) := by kernel_rfl
@[go_sem] theorem fld8_3 : tyFld Try.prog 8 3 = some (3, 1, false) := by kernel_rfl
@[go_sem] theorem und9 : (Try.prog.underlying 9).isSome = true := by kernel_rfl
@[go_sem] theorem as9 : tyAS Try.prog 9 = some (false, 1) := by kernel_rfl
@[go_sem] theorem sl9 : tySl Try.prog 9 = none := by kernel_rfl
@[go_sem] theorem int9 : tyInt Try.prog 9 = none := by kernel_rfl
@[go_sem] theorem str9 : tyStr Try.prog 9 = true := by kernel_rfl
@[go_sem] theorem bool9 : tyBool Try.prog 9 = false := by kernel_rfl
@[go_sem] theorem z9 : tyZ Try.prog 9 = some ((.str ⟨#[]⟩) :: []) := by kernel_rfl
@[go_sem] theorem und10 : (Try.prog.underlying 10).isSome = true := by kernel_rfl
@[go_sem] theorem as10 : tyAS Try.prog 10 = some (false, 1) := by kernel_rfl
@[go_sem] theorem sl10 : tySl Try.prog 10 = none := by kernel_rfl
@[go_sem] theorem int10 : tyInt Try.prog 10 = none := by kernel_rfl
@[go_sem] theorem str10 : tyStr Try.prog 10 = true := by kernel_rfl
@[go_sem] theorem bool10 : tyBool Try.prog 10 = false := by kernel_rfl
@[go_sem] theorem z10 : tyZ Try.prog 10 = some ((.str ⟨#[]⟩) :: []) := by kernel_rfl
@[go_sem] theorem und11 : (Try.prog.underlying 11).isSome = true := by kernel_rfl
@[go_sem] theorem as11 : tyAS Try.prog 11 = some (false, 1) := by kernel_rfl
@[go_sem] theorem sl11 : tySl Try.prog 11 = none := by kernel_rfl
@[go_sem] theorem int11 : tyInt Try.prog 11 = none := by kernel_rfl
@[go_sem] theorem str11 : tyStr Try.prog 11 = true := by kernel_rfl
@[go_sem] theorem bool11 : tyBool Try.prog 11 = false := by kernel_rfl
@[go_sem] theorem z11 : tyZ Try.prog 11 = some ((.str ⟨#[]⟩) :: []) := by kernel_rfl
@[go_sem] theorem und12 : (Try.prog.underlying 12).isSome = true := by kernel_rfl
@[go_sem] theorem as12 : tyAS Try.prog 12 = some (false, 1) := by kernel_rfl
@[go_sem] theorem sl12 : tySl Try.prog 12 = none := by kernel_rfl
@[go_sem] theorem int12 : tyInt Try.prog 12 = some (.u64) := by kernel_rfl
@[go_sem] theorem str12 : tyStr Try.prog 12 = false := by kernel_rfl
@[go_sem] theorem bool12 : tyBool Try.prog 12 = false := by kernel_rfl
@[go_sem] theorem z12 : tyZ Try.prog 12 = some ((.int .u64 (0)) :: []) := by kernel_rfl
@[go_sem] theorem und13 : (Try.prog.underlying 13).isSome = true := by kernel_rfl
@[go_sem] theorem as13 : tyAS Try.prog 13 = some (true, 2) := by kernel_rfl
@[go_sem] theorem sl13 : tySl Try.prog 13 = none := by kernel_rfl
@[go_sem] theorem int13 : tyInt Try.prog 13 = none := by kernel_rfl
@[go_sem] theorem str13 : tyStr Try.prog 13 = false := by kernel_rfl
@[go_sem] theorem bool13 : tyBool Try.prog 13 = false := by kernel_rfl
@[go_sem] theorem z13 : tyZ Try.prog 13 = some ((.str ⟨#[]⟩) :: (.int .u64 (0)) :: []) := by kernel_rfl
@[go_sem] theorem fs13 : tyFs Try.prog 13 = some ((0, 1) :: (1, 1) :: []) := by kernel_rfl
@[go_sem] theorem fld13_0 : tyFld Try.prog 13 0 = some (0, 1, false) := by kernel_rfl
@[go_sem] theorem fld13_1 : tyFld Try.prog 13 1 = some (1, 1, false) := by kernel_rfl
@[go_sem] theorem und14 : (Try.prog.underlying 14).isSome = true := by kernel_rfl
@[go_sem] theorem as14 : tyAS Try.prog 14 = some (true, 2) := by kernel_rfl
@[go_sem] theorem sl14 : tySl Try.prog 14 = none := by kernel_rfl
@[go_sem] theorem int14 : tyInt Try.prog 14 = none := by kernel_rfl
@[go_sem] theorem str14 : tyStr Try.prog 14 = false := by kernel_rfl
@[go_sem] theorem bool14 : tyBool Try.prog 14 = false := by kernel_rfl
@[go_sem] theorem z14 : tyZ Try.prog 14 = some ((.str ⟨#[]⟩) :: (.int .u64 (0)) :: []) := by kernel_rfl
@[go_sem] theorem fs14 : tyFs Try.prog 14 = some ((0, 1) :: (1, 1) :: []) := by kernel_rfl
@[go_sem] theorem fld14_0 : tyFld Try.prog 14 0 = some (0, 1, false) := by kernel_rfl
@[go_sem] theorem fld14_1 : tyFld Try.prog 14 1 = some (1, 1, false) := by kernel_rfl
@[go_sem] theorem und15 : (Try.prog.underlying 15).isSome = true := by kernel_rfl
@[go_sem] theorem as15 : tyAS Try.prog 15 = some (false, 1) := by kernel_rfl
@[go_sem] theorem sl15 : tySl Try.prog 15 = none := by kernel_rfl
@[go_sem] theorem int15 : tyInt Try.prog 15 = none := by kernel_rfl
@[go_sem] theorem str15 : tyStr Try.prog 15 = false := by kernel_rfl
@[go_sem] theorem bool15 : tyBool Try.prog 15 = false := by kernel_rfl
@[go_sem] theorem z15 : tyZ Try.prog 15 = some ((.nilp) :: []) := by kernel_rfl
@[go_sem] theorem und16 : (Try.prog.underlying 16).isSome = true := by kernel_rfl
@[go_sem] theorem as16 : tyAS Try.prog 16 = some (false, 1) := by kernel_rfl
@[go_sem] theorem sl16 : tySl Try.prog 16 = none := by kernel_rfl
@[go_sem] theorem int16 : tyInt Try.prog 16 = none := by kernel_rfl
@[go_sem] theorem str16 : tyStr Try.prog 16 = false := by kernel_rfl
@[go_sem] theorem bool16 : tyBool Try.prog 16 = false := by kernel_rfl
@[go_sem] theorem z16 : tyZ Try.prog 16 = some ((.nilp) :: []) := by kernel_rfl
@[go_sem] theorem und17 : (Try.prog.underlying 17).isSome = true := by kernel_rfl
@[go_sem] theorem as17 : tyAS Try.prog 17 = some (false, 1) := by kernel_rfl
@[go_sem] theorem sl17 : tySl Try.prog 17 = none := by kernel_rfl
@[go_sem] theorem int17 : tyInt Try.prog 17 = none := by kernel_rfl
@[go_sem] theorem str17 : tyStr Try.prog 17 = false := by kernel_rfl
@[go_sem] theorem bool17 : tyBool Try.prog 17 = false := by kernel_rfl
@[go_sem] theorem z17 : tyZ Try.prog 17 = some ((.nilp) :: []) := by kernel_rfl
@[go_sem] theorem und18 : (Try.prog.underlying 18).isSome = true := by kernel_rfl
@[go_sem] theorem as18 : tyAS Try.prog 18 = some (true, 1) := by kernel_rfl
@[go_sem] theorem sl18 : tySl Try.prog 18 = none := by kernel_rfl
@[go_sem] theorem int18 : tyInt Try.prog 18 = none := by kernel_rfl
@[go_sem] theorem str18 : tyStr Try.prog 18 = false := by kernel_rfl
@[go_sem] theorem bool18 : tyBool Try.prog 18 = false := by kernel_rfl
@[go_sem] theorem z18 : tyZ Try.prog 18 = some ((.nilp) :: []) := by kernel_rfl
@[go_sem] theorem fs18 : tyFs Try.prog 18 = some ((0, 1) :: []) := by kernel_rfl
@[go_sem] theorem fld18_0 : tyFld Try.prog 18 0 = some (0, 1, false) := by kernel_rfl
@[go_sem] theorem und19 : (Try.prog.underlying 19).isSome = true := by kernel_rfl
@[go_sem] theorem as19 : tyAS Try.prog 19 = some (true, 1) := by kernel_rfl
@[go_sem] theorem sl19 : tySl Try.prog 19 = none := by kernel_rfl
@[go_sem] theorem int19 : tyInt Try.prog 19 = none := by kernel_rfl
@[go_sem] theorem str19 : tyStr Try.prog 19 = false := by kernel_rfl
@[go_sem] theorem bool19 : tyBool Try.prog 19 = false := by kernel_rfl
@[go_sem] theorem z19 : tyZ Try.prog 19 = some ((.nilp) :: []) := by kernel_rfl
@[go_sem] theorem fs19 : tyFs Try.prog 19 = some ((0, 1) :: []) := by kernel_rfl
@[go_sem] theorem fld19_0 : tyFld Try.prog 19 0 = some (0, 1, false) := by kernel_rfl
@[go_sem] theorem und20 : (Try.prog.underlying 20).isSome = true := by kernel_rfl
@[go_sem] theorem as20 : tyAS Try.prog 20 = some (false, 1) := by kernel_rfl
@[go_sem] theorem sl20 : tySl Try.prog 20 = none := by kernel_rfl
@[go_sem] theorem int20 : tyInt Try.prog 20 = none := by kernel_rfl
@[go_sem] theorem str20 : tyStr Try.prog 20 = false := by kernel_rfl
@[go_sem] theorem bool20 : tyBool Try.prog 20 = false := by kernel_rfl
@[go_sem] theorem z20 : tyZ Try.prog 20 = some ((.junk) :: []) := by kernel_rfl
@[go_sem] theorem und21 : (Try.prog.underlying 21).isSome = true := by kernel_rfl
@[go_sem] theorem as21 : tyAS Try.prog 21 = some (false, 1) := by kernel_rfl
@[go_sem] theorem sl21 : tySl Try.prog 21 = none := by kernel_rfl
@[go_sem] theorem int21 : tyInt Try.prog 21 = some (.i32) := by kernel_rfl
@[go_sem] theorem str21 : tyStr Try.prog 21 = false := by kernel_rfl
@[go_sem] theorem bool21 : tyBool Try.prog 21 = false := by kernel_rfl
@[go_sem] theorem z21 : tyZ Try.prog 21 = some ((.int .i32 (0)) :: []) := by kernel_rfl
@[go_sem] theorem und22 : (Try.prog.underlying 22).isSome = true := by kernel_rfl
@[go_sem] theorem as22 : tyAS Try.prog 22 = some (false, 1) := by kernel_rfl
@[go_sem] theorem sl22 : tySl Try.prog 22 = some (86, 1, 24) := by kernel_rfl
@[go_sem] theorem int22 : tyInt Try.prog 22 = none := by kernel_rfl
@[go_sem] theorem str22 : tyStr Try.prog 22 = false := by kernel_rfl
@[go_sem] theorem bool22 : tyBool Try.prog 22 = false := by kernel_rfl
@[go_sem] theorem z22 : tyZ Try.prog 22 = some ((.sl 0 true []) :: []) := by kernel_rfl
@[go_sem] theorem und23 : (Try.prog.underlying 23).isSome = true := by kernel_rfl
@[go_sem] theorem as23 : tyAS Try.prog 23 = some (false, 1) := by kernel_rfl
@[go_sem] theorem sl23 : tySl Try.prog 23 = none := by kernel_rfl
@[go_sem] theorem int23 : tyInt Try.prog 23 = none := by kernel_rfl
@[go_sem] theorem str23 : tyStr Try.prog 23 = false := by kernel_rfl
@[go_sem] theorem bool23 : tyBool Try.prog 23 = false := by kernel_rfl
@[go_sem] theorem z23 : tyZ Try.prog 23 = some ((.junk) :: []) := by kernel_rfl
@[go_sem] theorem und24 : (Try.prog.underlying 24).isSome = true := by kernel_rfl
@[go_sem] theorem as24 : tyAS Try.prog 24 = some (false, 1) := by kernel_rfl
@[go_sem] theorem sl24 : tySl Try.prog 24 = some (31, 1, 24) := by kernel_rfl
@[go_sem] theorem int24 : tyInt Try.prog 24 = none := by kernel_rfl
@[go_sem] theorem str24 : tyStr Try.prog 24 = false := by kernel_rfl
@[go_sem] theorem bool24 : tyBool Try.prog 24 = false := by kernel_rfl
@[go_sem] theorem z24 : tyZ Try.prog 24 = some ((.sl 0 true []) :: []) := by kernel_rfl
@[go_sem] theorem und25 : (Try.prog.underlying 25).isSome = true := by kernel_rfl
@[go_sem] theorem as25 : tyAS Try.prog 25 = some (false, 1) := by kernel_rfl
@[go_sem] theorem sl25 : tySl Try.prog 25 = none := by kernel_rfl
@[go_sem] theorem int25 : tyInt Try.prog 25 = none := by kernel_rfl
@[go_sem] theorem str25 : tyStr Try.prog 25 = false := by kernel_rfl
@[go_sem] theorem bool25 : tyBool Try.prog 25 = false := by kernel_rfl
@[go_sem] theorem z25 : tyZ Try.prog 25 = some ((.junk) :: []) := by kernel_rfl
@[go_sem] theorem und26 : (Try.prog.underlying 26).isSome = true := by kernel_rfl
@[go_sem] theorem as26 : tyAS Try.prog 26 = some (false, 1) := by kernel_rfl
@[go_sem] theorem sl26 : tySl Try.prog 26 = none := by kernel_rfl
@[go_sem] theorem int26 : tyInt Try.prog 26 = none := by kernel_rfl
@[go_sem] theorem str26 : tyStr Try.prog 26 = false := by kernel_rfl
@[go_sem] theorem bool26 : tyBool Try.prog 26 = false := by kernel_rfl
@[go_sem] theorem z26 : tyZ Try.prog 26 = some ((.junk) :: []) := by kernel_rfl
@[go_sem] theorem und27 : (Try.prog.underlying 27).isSome = true := by kernel_rfl
@[go_sem] theorem as27 : tyAS Try.prog 27 = some (false, 1) := by kernel_rfl
@[go_sem] theorem sl27 : tySl Try.prog 27 = none := by kernel_rfl
@[go_sem] theorem int27 : tyInt Try.prog 27 = none := by kernel_rfl
@[go_sem] theorem str27 : tyStr Try.prog 27 = false := by kernel_rfl
@[go_sem] theorem bool27 : tyBool Try.prog 27 = false := by kernel_rfl
@[go_sem] theorem z27 : tyZ Try.prog 27 = some ((.junk) :: []) := by kernel_rfl
@[go_sem] theorem und28 : (Try.prog.underlying 28).isSome = true := by kernel_rfl
@[go_sem] theorem as28 : tyAS Try.prog 28 = some (false, 1) := by kernel_rfl
@[go_sem] theorem sl28 : tySl Try.prog 28 = none := by kernel_rfl
@[go_sem] theorem int28 : tyInt Try.prog 28 = none := by kernel_rfl
@[go_sem] theorem str28 : tyStr Try.prog 28 = false := by kernel_rfl
@[go_sem] theorem bool28 : tyBool Try.prog 28 = false := by kernel_rfl
@[go_sem] theorem z28 : tyZ Try.prog 28 = some ((.junk) :: []) := by kernel_rfl
@[go_sem] theorem und29 : (Try.prog.underlying 29).isSome = true := by kernel_rfl
@[go_sem] theorem as29 : tyAS Try.prog 29 = some (false, 1) := by kernel_rfl
@[go_sem] theorem sl29 : tySl Try.prog 29 = none := by kernel_rfl
@[go_sem] theorem int29 : tyInt Try.prog 29 = none := by kernel_rfl
@[go_sem] theorem str29 : tyStr Try.prog 29 = false := by kernel_rfl
@[go_sem] theorem bool29 : tyBool Try.prog 29 = false := by kernel_rfl
@[go_sem] theorem z29 : tyZ Try.prog 29 = some ((.junk) :: []) := by kernel_rfl
@[go_sem] theorem und30 : (Try.prog.underlying 30).isSome = true := by kernel_rfl
@[go_sem] theorem as30 : tyAS Try.prog 30 = some (false, 1) := by kernel_rfl
@[go_sem] theorem sl30 : tySl Try.prog 30 = some (5, 1, 1) := by kernel_rfl
@[go_sem] theorem int30 : tyInt Try.prog 30 = none := by kernel_rfl
@[go_sem] theorem str30 : tyStr Try.prog 30 = false := by kernel_rfl
@[go_sem] theorem bool30 : tyBool Try.prog 30 = false := by kernel_rfl
@[go_sem] theorem z30 : tyZ Try.prog 30 = some ((.sl 0 true []) :: []) := by kernel_rfl
@[go_sem] theorem und31 : (Try.prog.underlying 31).isSome = true := by kernel_rfl
@[go_sem] theorem as31 : tyAS Try.prog 31 = some (false, 1) := by kernel_rfl
@[go_sem] theorem sl31 : tySl Try.prog 31 = some (65, 3, 32) := by kernel_rfl
@[go_sem] theorem int31 : tyInt Try.prog 31 = none := by kernel_rfl
@[go_sem] theorem str31 : tyStr Try.prog 31 = false := by kernel_rfl
@[go_sem] theorem bool31 : tyBool Try.prog 31 = false := by kernel_rfl
@[go_sem] theorem z31 : tyZ Try.prog 31 = some ((.sl 0 true []) :: []) := by kernel_rfl
@[go_sem] theorem und32 : (Try.prog.underlying 32).isSome = true := by kernel_rfl
@[go_sem] theorem as32 : tyAS Try.prog 32 = some (false, 1) := by kernel_rfl
@[go_sem] theorem sl32 : tySl Try.prog 32 = none := by kernel_rfl
@[go_sem] theorem int32 : tyInt Try.prog 32 = none := by kernel_rfl
@[go_sem] theorem str32 : tyStr Try.prog 32 = false := by kernel_rfl
@[go_sem] theorem bool32 : tyBool Try.prog 32 = false := by kernel_rfl
@[go_sem] theorem z32 : tyZ Try.prog 32 = some ((.junk) :: []) := by kernel_rfl
@[go_sem] theorem und33 : (Try.prog.underlying 33).isSome = true := by kernel_rfl
@[go_sem] theorem as33 : tyAS Try.prog 33 = some (false, 1) := by kernel_rfl
@[go_sem] theorem sl33 : tySl Try.prog 33 = none := by kernel_rfl
@[go_sem] theorem int33 : tyInt Try.prog 33 = none := by kernel_rfl
@[go_sem] theorem str33 : tyStr Try.prog 33 = false := by kernel_rfl
@[go_sem] theorem bool33 : tyBool Try.prog 33 = false := by kernel_rfl
@[go_sem] theorem z33 : tyZ Try.prog 33 = some ((.junk) :: []) := by kernel_rfl
@[go_sem] theorem und34 : (Try.prog.underlying 34).isSome = true := by kernel_rfl
@[go_sem] theorem as34 : tyAS Try.prog 34 = some (false, 1) := by kernel_rfl
@[go_sem] theorem sl34 : tySl Try.prog 34 = none := by kernel_rfl
@[go_sem] theorem int34 : tyInt Try.prog 34 = none := by kernel_rfl
@[go_sem] theorem str34 : tyStr Try.prog 34 = false := by kernel_rfl
@[go_sem] theorem bool34 : tyBool Try.prog 34 = false := by kernel_rfl
@[go_sem] theorem z34 : tyZ Try.prog 34 = some ((.junk) :: []) := by kernel_rfl
@[go_sem] theorem und35 : (Try.prog.underlying 35).isSome = true := by kernel_rfl
@[go_sem] theorem as35 : tyAS Try.prog 35 = some (false, 1) := by kernel_rfl
@[go_sem] theorem sl35 : tySl Try.prog 35 = none := by kernel_rfl
@[go_sem] theorem int35 : tyInt Try.prog 35 = none := by kernel_rfl
@[go_sem] theorem str35 : tyStr Try.prog 35 = false := by kernel_rfl
@[go_sem] theorem bool35 : tyBool Try.prog 35 = false := by kernel_rfl
@[go_sem] theorem z35 : tyZ Try.prog 35 = some ((.junk) :: []) := by kernel_rfl
@[go_sem] theorem und36 : (Try.prog.underlying 36).isSome = true := by kernel_rfl
@[go_sem] theorem as36 : tyAS Try.prog 36 = some (false, 1) := by kernel_rfl
@[go_sem] theorem sl36 : tySl Try.prog 36 = none := by kernel_rfl
@[go_sem] theorem int36 : tyInt Try.prog 36 = none := by kernel_rfl
@[go_sem] theorem str36 : tyStr Try.prog 36 = false := by kernel_rfl
@[go_sem] theorem bool36 : tyBool Try.prog 36 = false := by kernel_rfl
@[go_sem] theorem und37 : (Try.prog.underlying 37).isSome = true := by kernel_rfl
@[go_sem] theorem as37 : tyAS Try.prog 37 = some (false, 1) := by kernel_rfl
@[go_sem] theorem sl37 : tySl Try.prog 37 = none := by kernel_rfl
@[go_sem] theorem int37 : tyInt Try.prog 37 = none := by kernel_rfl
@[go_sem] theorem str37 : tyStr Try.prog 37 = false := by kernel_rfl
@[go_sem] theorem bool37 : tyBool Try.prog 37 = false := by kernel_rfl
@[go_sem] theorem z37 : tyZ Try.prog 37 = some ((.junk) :: []) := by kernel_rfl
@[go_sem] theorem und38 : (Try.prog.underlying 38).isSome = true := by kernel_rfl
@[go_sem] theorem as38 : tyAS Try.prog 38 = some (false, 1) := by kernel_rfl
@[go_sem] theorem sl38 : tySl Try.prog 38 = none := by kernel_rfl
@[go_sem] theorem int38 : tyInt Try.prog 38 = none := by kernel_rfl
@[go_sem] theorem str38 : tyStr Try.prog 38 = false := by kernel_rfl
@[go_sem] theorem bool38 : tyBool Try.prog 38 = false := by kernel_rfl
@[go_sem] theorem z38 : tyZ Try.prog 38 = some ((.junk) :: []) := by kernel_rfl
@[go_sem] theorem und39 : (Try.prog.underlying 39).isSome = true := by kernel_rfl
@[go_sem] theorem as39 : tyAS Try.prog 39 = some (false, 1) := by kernel_rfl
@[go_sem] theorem sl39 : tySl Try.prog 39 = none := by kernel_rfl
@[go_sem] theorem int39 : tyInt Try.prog 39 = none := by kernel_rfl
@[go_sem] theorem str39 : tyStr Try.prog 39 = false := by kernel_rfl
@[go_sem] theorem bool39 : tyBool Try.prog 39 = false := by kernel_rfl
@[go_sem] theorem z39 : tyZ Try.prog 39 = some ((.junk) :: []) := by kernel_rfl
@[go_sem] theorem und40 : (Try.prog.underlying 40).isSome = true := by kernel_rfl
@[go_sem] theorem as40 : tyAS Try.prog 40 = some (false, 1) := by kernel_rfl
@[go_sem] theorem sl40 : tySl Try.prog 40 = none := by kernel_rfl
@[go_sem] theorem int40 : tyInt Try.prog 40 = none := by kernel_rfl
@[go_sem] theorem str40 : tyStr Try.prog 40 = false := by kernel_rfl
@[go_sem] theorem bool40 : tyBool Try.prog 40 = false := by kernel_rfl
@[go_sem] theorem und41 : (Try.prog.underlying 41).isSome = true := by kernel_rfl
@[go_sem] theorem as41 : tyAS Try.prog 41 = some (false, 1) := by kernel_rfl
@[go_sem] theorem sl41 : tySl Try.prog 41 = none := by kernel_rfl
@[go_sem] theorem int41 : tyInt Try.prog 41 = none := by kernel_rfl
@[go_sem] theorem str41 : tyStr Try.prog 41 = false := by kernel_rfl
@[go_sem] theorem bool41 : tyBool Try.prog 41 = false := by kernel_rfl
@[go_sem] theorem z41 : tyZ Try.prog 41 = some ((.junk) :: []) := by kernel_rfl
@[go_sem] theorem und42 : (Try.prog.underlying 42).isSome = true := by kernel_rfl
@[go_sem] theorem as42 : tyAS Try.prog 42 = some (false, 1) := by kernel_rfl
@[go_sem] theorem sl42 : tySl Try.prog 42 = none := by kernel_rfl
@[go_sem] theorem int42 : tyInt Try.prog 42 = none := by kernel_rfl
@[go_sem] theorem str42 : tyStr Try.prog 42 = false := by kernel_rfl
@[go_sem] theorem bool42 : tyBool Try.prog 42 = false := by kernel_rfl
@[go_sem] theorem z42 : tyZ Try.prog 42 = some ((.junk) :: []) := by kernel_rfl
@[go_sem] theorem und43 : (Try.prog.underlying 43).isSome = true := by kernel_rfl
@[go_sem] theorem as43 : tyAS Try.prog 43 = some (false, 1) := by kernel_rfl
@[go_sem] theorem sl43 : tySl Try.prog 43 = some (4, 1, 1) := by kernel_rfl
@[go_sem] theorem int43 : tyInt Try.prog 43 = none := by kernel_rfl
@[go_sem] theorem str43 : tyStr Try.prog 43 = false := by kernel_rfl
@[go_sem] theorem bool43 : tyBool Try.prog 43 = false := by kernel_rfl
@[go_sem] theorem z43 : tyZ Try.prog 43 = some ((.sl 0 true []) :: []) := by kernel_rfl
@[go_sem] theorem und44 : (Try.prog.underlying 44).isSome = true := by kernel_rfl
@[go_sem] theorem as44 : tyAS Try.prog 44 = some (true, 2) := by kernel_rfl
@[go_sem] theorem sl44 : tySl Try.prog 44 = none := by kernel_rfl
@[go_sem] theorem int44 : tyInt Try.prog 44 = none := by kernel_rfl
@[go_sem] theorem str44 : tyStr Try.prog 44 = false := by kernel_rfl
@[go_sem] theorem bool44 : tyBool Try.prog 44 = false := by kernel_rfl
@[go_sem] theorem z44 : tyZ Try.prog 44 = some ((.sl 0 true []) :: (.sl 0 true []) :: []) := by kernel_rfl
@[go_sem] theorem fs44 : tyFs Try.prog 44 = some ((0, 1) :: (1, 1) :: []) := by kernel_rfl
@[go_sem] theorem fld44_0 : tyFld Try.prog 44 0 = some (0, 1, false) := by kernel_rfl
@[go_sem] theorem fld44_1 : tyFld Try.prog 44 1 = some (1, 1, false) := by kernel_rfl
@[go_sem] theorem und45 : (Try.prog.underlying 45).isSome = true := by kernel_rfl
@[go_sem] theorem as45 : tyAS Try.prog 45 = some (true, 2) := by kernel_rfl
@[go_sem] theorem sl45 : tySl Try.prog 45 = none := by kernel_rfl
@[go_sem] theorem int45 : tyInt Try.prog 45 = none := by kernel_rfl
@[go_sem] theorem str45 : tyStr Try.prog 45 = false := by kernel_rfl
@[go_sem] theorem bool45 : tyBool Try.prog 45 = false := by kernel_rfl
@[go_sem] theorem z45 : tyZ Try.prog 45 = some ((.sl 0 true []) :: (.sl 0 true []) :: []) := by kernel_rfl
@[go_sem] theorem fs45 : tyFs Try.prog 45 = some ((0, 1) :: (1, 1) :: []) := by kernel_rfl
@[go_sem] theorem fld45_0 : tyFld Try.prog 45 0 = some (0, 1, false) := by kernel_rfl
@[go_sem] theorem fld45_1 : tyFld Try.prog 45 1 = some (1, 1, false) := by kernel_rfl
@[go_sem] theorem und46 : (Try.prog.underlying 46).isSome = true := by kernel_rfl
@[go_sem] theorem as46 : tyAS Try.prog 46 = some (false, 1) := by kernel_rfl
@[go_sem] theorem sl46 : tySl Try.prog 46 = none := by kernel_rfl
@[go_sem] theorem int46 : tyInt Try.prog 46 = none := by kernel_rfl
@[go_sem] theorem str46 : tyStr Try.prog 46 = false := by kernel_rfl
@[go_sem] theorem bool46 : tyBool Try.prog 46 = false := by kernel_rfl
@[go_sem] theorem z46 : tyZ Try.prog 46 = some ((.junk) :: []) := by kernel_rfl
@[go_sem] theorem und47 : (Try.prog.underlying 47).isSome = true := by kernel_rfl
@[go_sem] theorem as47 : tyAS Try.prog 47 = some (false, 1) := by kernel_rfl
@[go_sem] theorem sl47 : tySl Try.prog 47 = none := by kernel_rfl
@[go_sem] theorem int47 : tyInt Try.prog 47 = none := by kernel_rfl
@[go_sem] theorem str47 : tyStr Try.prog 47 = false := by kernel_rfl
@[go_sem] theorem bool47 : tyBool Try.prog 47 = false := by kernel_rfl
@[go_sem] theorem z47 : tyZ Try.prog 47 = some ((.junk) :: []) := by kernel_rfl
@[go_sem] theorem und48 : (Try.prog.underlying 48).isSome = true := by kernel_rfl
@[go_sem] theorem as48 : tyAS Try.prog 48 = some (false, 1) := by kernel_rfl
@[go_sem] theorem sl48 : tySl Try.prog 48 = none := by kernel_rfl
@[go_sem] theorem int48 : tyInt Try.prog 48 = none := by kernel_rfl
@[go_sem] theorem str48 : tyStr Try.prog 48 = false := by kernel_rfl
@[go_sem] theorem bool48 : tyBool Try.prog 48 = false := by kernel_rfl
@[go_sem] theorem z48 : tyZ Try.prog 48 = some ((.junk) :: []) := by kernel_rfl
@[go_sem] theorem und49 : (Try.prog.underlying 49).isSome = true := by kernel_rfl
@[go_sem] theorem as49 : tyAS Try.prog 49 = some (false, 1) := by kernel_rfl
@[go_sem] theorem sl49 : tySl Try.prog 49 = some (122, 2, 16) := by kernel_rfl
@[go_sem] theorem int49 : tyInt Try.prog 49 = none := by kernel_rfl
@[go_sem] theorem str49 : tyStr Try.prog 49 = false := by kernel_rfl
@[go_sem] theorem bool49 : tyBool Try.prog 49 = false := by kernel_rfl
@[go_sem] theorem z49 : tyZ Try.prog 49 = some ((.sl 0 true []) :: []) := by kernel_rfl
@[go_sem] theorem und50 : (Try.prog.underlying 50).isSome = true := by kernel_rfl
@[go_sem] theorem as50 : tyAS Try.prog 50 = some (false, 1) := by kernel_rfl
@[go_sem] theorem sl50 : tySl Try.prog 50 = some (114, 5, 48) := by kernel_rfl
@[go_sem] theorem int50 : tyInt Try.prog 50 = none := by kernel_rfl
@[go_sem] theorem str50 : tyStr Try.prog 50 = false := by kernel_rfl
@[go_sem] theorem bool50 : tyBool Try.prog 50 = false := by kernel_rfl
@[go_sem] theorem z50 : tyZ Try.prog 50 = some ((.sl 0 true []) :: []) := by kernel_rfl
@[go_sem] theorem und51 : (Try.prog.underlying 51).isSome = true := by kernel_rfl
@[go_sem] theorem as51 : tyAS Try.prog 51 = some (false, 1) := by kernel_rfl
@[go_sem] theorem sl51 : tySl Try.prog 51 = none := by kernel_rfl
@[go_sem] theorem int51 : tyInt Try.prog 51 = none := by kernel_rfl
@[go_sem] theorem str51 : tyStr Try.prog 51 = false := by kernel_rfl
@[go_sem] theorem bool51 : tyBool Try.prog 51 = false := by kernel_rfl
@[go_sem] theorem z51 : tyZ Try.prog 51 = some ((.junk) :: []) := by kernel_rfl
@[go_sem] theorem und52 : (Try.prog.underlying 52).isSome = true := by kernel_rfl
@[go_sem] theorem as52 : tyAS Try.prog 52 = some (false, 1) := by kernel_rfl
@[go_sem] theorem sl52 : tySl Try.prog 52 = none := by kernel_rfl
@[go_sem] theorem int52 : tyInt Try.prog 52 = none := by kernel_rfl
@[go_sem] theorem str52 : tyStr Try.prog 52 = false := by kernel_rfl
@[go_sem] theorem bool52 : tyBool Try.prog 52 = false := by kernel_rfl
@[go_sem] theorem z52 : tyZ Try.prog 52 = some ((.junk) :: []) := by kernel_rfl
@[go_sem] theorem und53 : (Try.prog.underlying 53).isSome = true := by kernel_rfl
@[go_sem] theorem as53 : tyAS Try.prog 53 = some (false, 1) := by kernel_rfl
@[go_sem] theorem sl53 : tySl Try.prog 53 = none := by kernel_rfl
@[go_sem] theorem int53 : tyInt Try.prog 53 = none := by kernel_rfl
@[go_sem] theorem str53 : tyStr Try.prog 53 = false := by kernel_rfl
@[go_sem] theorem bool53 : tyBool Try.prog 53 = false := by kernel_rfl
@[go_sem] theorem z53 : tyZ Try.prog 53 = some ((.junk) :: []) := by kernel_rfl
@[go_sem] theorem und54 : (Try.prog.underlying 54).isSome = true := by kernel_rfl
@[go_sem] theorem as54 : tyAS Try.prog 54 = some (false, 1) := by kernel_rfl
@[go_sem] theorem sl54 : tySl Try.prog 54 = some (120, 2, 16) := by kernel_rfl
@[go_sem] theorem int54 : tyInt Try.prog 54 = none := by kernel_rfl
@[go_sem] theorem str54 : tyStr Try.prog 54 = false := by kernel_rfl
@[go_sem] theorem bool54 : tyBool Try.prog 54 = false := by kernel_rfl
@[go_sem] theorem z54 : tyZ Try.prog 54 = some ((.sl 0 true []) :: []) := by kernel_rfl
@[go_sem] theorem und55 : (Try.prog.underlying 55).isSome = true := by kernel_rfl
@[go_sem] theorem as55 : tyAS Try.prog 55 = some (false, 1) := by kernel_rfl
@[go_sem] theorem sl55 : tySl Try.prog 55 = none := by kernel_rfl
@[go_sem] theorem int55 : tyInt Try.prog 55 = none := by kernel_rfl
@[go_sem] theorem str55 : tyStr Try.prog 55 = false := by kernel_rfl
@[go_sem] theorem bool55 : tyBool Try.prog 55 = false := by kernel_rfl
@[go_sem] theorem z55 : tyZ Try.prog 55 = some ((.junk) :: []) := by kernel_rfl
@[go_sem] theorem und56 : (Try.prog.underlying 56).isSome = true := by kernel_rfl
@[go_sem] theorem as56 : tyAS Try.prog 56 = some (false, 1) := by kernel_rfl
@[go_sem] theorem sl56 : tySl Try.prog 56 = some (67, 5, 48) := by kernel_rfl
@[go_sem] theorem int56 : tyInt Try.prog 56 = none := by kernel_rfl
@[go_sem] theorem str56 : tyStr Try.prog 56 = false := by kernel_rfl
@[go_sem] theorem bool56 : tyBool Try.prog 56 = false := by kernel_rfl
@[go_sem] theorem z56 : tyZ Try.prog 56 = some ((.sl 0 true []) :: []) := by kernel_rfl
@[go_sem] theorem und57 : (Try.prog.underlying 57).isSome = true := by kernel_rfl
@[go_sem] theorem as57 : tyAS Try.prog 57 = some (false, 1) := by kernel_rfl
@[go_sem] theorem sl57 : tySl Try.prog 57 = none := by kernel_rfl
@[go_sem] theorem int57 : tyInt Try.prog 57 = none := by kernel_rfl
@[go_sem] theorem str57 : tyStr Try.prog 57 = false := by kernel_rfl
@[go_sem] theorem bool57 : tyBool Try.prog 57 = false := by kernel_rfl
@[go_sem] theorem z57 : tyZ Try.prog 57 = some ((.junk) :: []) := by kernel_rfl
@[go_sem] theorem und58 : (Try.prog.underlying 58).isSome = true := by kernel_rfl
@[go_sem] theorem as58 : tyAS Try.prog 58 = some (false, 1) := by kernel_rfl
@[go_sem] theorem sl58 : tySl Try.prog 58 = none := by kernel_rfl
@[go_sem] theorem int58 : tyInt Try.prog 58 = none := by kernel_rfl
@[go_sem] theorem str58 : tyStr Try.prog 58 = false := by kernel_rfl
@[go_sem] theorem bool58 : tyBool Try.prog 58 = false := by kernel_rfl
@[go_sem] theorem z58 : tyZ Try.prog 58 = some ((.junk) :: []) := by kernel_rfl
@[go_sem] theorem und59 : (Try.prog.underlying 59).isSome = true := by kernel_rfl
@[go_sem] theorem as59 : tyAS Try.prog 59 = some (false, 1) := by kernel_rfl
@[go_sem] theorem sl59 : tySl Try.prog 59 = none := by kernel_rfl
@[go_sem] theorem int59 : tyInt Try.prog 59 = none := by kernel_rfl
@[go_sem] theorem str59 : tyStr Try.prog 59 = false := by kernel_rfl
@[go_sem] theorem bool59 : tyBool Try.prog 59 = false := by kernel_rfl
@[go_sem] theorem z59 : tyZ Try.prog 59 = some ((.junk) :: []) := by kernel_rfl
@[go_sem] theorem und60 : (Try.prog.underlying 60).isSome = true := by kernel_rfl
@[go_sem] theorem as60 : tyAS Try.prog 60 = some (false, 1) := by kernel_rfl
@[go_sem] theorem sl60 : tySl Try.prog 60 = none := by kernel_rfl
@[go_sem] theorem int60 : tyInt Try.prog 60 = none := by kernel_rfl
@[go_sem] theorem str60 : tyStr Try.prog 60 = false := by kernel_rfl
@[go_sem] theorem bool60 : tyBool Try.prog 60 = false := by kernel_rfl
@[go_sem] theorem z60 : tyZ Try.prog 60 = some ((.junk) :: []) := by kernel_rfl
@[go_sem] theorem und61 : (Try.prog.underlying 61).isSome = true := by kernel_rfl
@[go_sem] theorem as61 : tyAS Try.prog 61 = some (false, 1) := by kernel_rfl
@[go_sem] theorem sl61 : tySl Try.prog 61 = none := by kernel_rfl
@[go_sem] theorem int61 : tyInt Try.prog 61 = none := by kernel_rfl
@[go_sem] theorem str61 : tyStr Try.prog 61 = false := by kernel_rfl
@[go_sem] theorem bool61 : tyBool Try.prog 61 = false := by kernel_rfl
@[go_sem] theorem z61 : tyZ Try.prog 61 = some ((.junk) :: []) := by kernel_rfl
@[go_sem] theorem und62 : (Try.prog.underlying 62).isSome = true := by kernel_rfl
@[go_sem] theorem as62 : tyAS Try.prog 62 = some (false, 1) := by kernel_rfl
@[go_sem] theorem sl62 : tySl Try.prog 62 = none := by kernel_rfl
@[go_sem] theorem int62 : tyInt Try.prog 62 = none := by kernel_rfl
@[go_sem] theorem str62 : tyStr Try.prog 62 = false := by kernel_rfl
@[go_sem] theorem bool62 : tyBool Try.prog 62 = false := by kernel_rfl
@[go_sem] theorem und63 : (Try.prog.underlying 63).isSome = true := by kernel_rfl
@[go_sem] theorem as63 : tyAS Try.prog 63 = some (false, 1) := by kernel_rfl
@[go_sem] theorem sl63 : tySl Try.prog 63 = none := by kernel_rfl
@[go_sem] theorem int63 : tyInt Try.prog 63 = none := by kernel_rfl
@[go_sem] theorem str63 : tyStr Try.prog 63 = false := by kernel_rfl
@[go_sem] theorem bool63 : tyBool Try.prog 63 = false := by kernel_rfl
@[go_sem] theorem z63 : tyZ Try.prog 63 = some ((.junk) :: []) := by kernel_rfl
@[go_sem] theorem und64 : (Try.prog.underlying 64).isSome = true := by kernel_rfl
@[go_sem] theorem as64 : tyAS Try.prog 64 = some (true, 3) := by kernel_rfl
@[go_sem] theorem sl64 : tySl Try.prog 64 = none := by kernel_rfl
@[go_sem] theorem int64 : tyInt Try.prog 64 = none := by kernel_rfl
@[go_sem] theorem str64 : tyStr Try.prog 64 = false := by kernel_rfl
@[go_sem] theorem bool64 : tyBool Try.prog 64 = false := by kernel_rfl
@[go_sem] theorem z64 : tyZ Try.prog 64 = some ((.int .i64 (0)) :: (.int .i64 (0)) :: (.str ⟨#[]⟩) :: []) := by kernel_rfl
@[go_sem] theorem fs64 : tyFs Try.prog 64 = some ((0, 1) :: (1, 1) :: (2, 1) :: []) := by kernel_rfl
@[go_sem] theorem eq64 : tyEq Try.prog 64 = some ((.int .i64) :: (.int .i64) :: (.str) :: []) := by kernel_rfl
@[go_sem] theorem fld64_0 : tyFld Try.prog 64 0 = some (0, 1, false) := by kernel_rfl
@[go_sem] theorem fld64_1 : tyFld Try.prog 64 1 = some (1, 1, false) := by kernel_rfl
@[go_sem] theorem fld64_2 : tyFld Try.prog 64 2 = some (2, 1, false) := by kernel_rfl
@[go_sem] theorem und65 : (Try.prog.underlying 65).isSome = true := by kernel_rfl
@[go_sem] theorem as65 : tyAS Try.prog 65 = some (true, 3) := by kernel_rfl
@[go_sem] theorem sl65 : tySl Try.prog 65 = none := by kernel_rfl
@[go_sem] theorem int65 : tyInt Try.prog 65 = none := by kernel_rfl
@[go_sem] theorem str65 : tyStr Try.prog 65 = false := by kernel_rfl
@[go_sem] theorem bool65 : tyBool Try.prog 65 = false := by kernel_rfl
@[go_sem] theorem z65 : tyZ Try.prog 65 = some ((.int .i64 (0)) :: (.int .i64 (0)) :: (.str ⟨#[]⟩) :: []) := by kernel_rfl
@[go_sem] theorem fs65 : tyFs Try.prog 65 = some ((0, 1) :: (1, 1) :: (2, 1) :: []) := by kernel_rfl
@[go_sem] theorem eq65 : tyEq Try.prog 65 = some ((.int .i64) :: (.int .i64) :: (.str) :: []) := by kernel_rfl
@[go_sem] theorem fld65_0 : tyFld Try.prog 65 0 = some (0, 1, false) := by kernel_rfl
@[go_sem] theorem fld65_1 : tyFld Try.prog 65 1 = some (1, 1, false) := by kernel_rfl
@[go_sem] theorem fld65_2 : tyFld Try.prog 65 2 = some (2, 1, false) := by kernel_rfl
@[go_sem] theorem und66 : (Try.prog.underlying 66).isSome = true := by kernel_rfl
@[go_sem] theorem as66 : tyAS Try.prog 66 = some (true, 5) := by kernel_rfl
@[go_sem] theorem sl66 : tySl Try.prog 66 = none := by kernel_rfl
@[go_sem] theorem int66 : tyInt Try.prog 66 = none := by kernel_rfl
@[go_sem] theorem str66 : tyStr Try.prog 66 = false := by kernel_rfl
@[go_sem] theorem bool66 : tyBool Try.prog 66 = false := by kernel_rfl
@[go_sem] theorem z66 : tyZ Try.prog 66 = some ((.int .i64 (0)) :: (.int .i64 (0)) :: (.int .i64 (0)) :: (.int .i64 (0)) :: (.str ⟨#[]⟩) :: []) := by kernel_rfl
@[go_sem] theorem fs66 : tyFs Try.prog 66 = some ((0, 1) :: (1, 1) :: (2, 3) :: []) := by kernel_rfl
@[go_sem] theorem eq66 : tyEq Try.prog 66 = some ((.int .i64) :: (.int .i64) :: (.int .i64) :: (.int .i64) :: (.str) :: []) := by kernel_rfl
@[go_sem] theorem fld66_0 : tyFld Try.prog 66 0 = some (0, 1, false) := by kernel_rfl
@[go_sem] theorem fld66_1 : tyFld Try.prog 66 1 = some (1, 1, false) := by kernel_rfl
@[go_sem] theorem fld66_2 : tyFld Try.prog 66 2 = some (2, 3, true) := by kernel_rfl
@[go_sem] theorem und67 : (Try.prog.underlying 67).isSome = true := by kernel_rfl
@[go_sem] theorem as67 : tyAS Try.prog 67 = some (true, 5) := by kernel_rfl
@[go_sem] theorem sl67 : tySl Try.prog 67 = none := by kernel_rfl
@[go_sem] theorem int67 : tyInt Try.prog 67 = none := by kernel_rfl
@[go_sem] theorem str67 : tyStr Try.prog 67 = false := by kernel_rfl
@[go_sem] theorem bool67 : tyBool Try.prog 67 = false := by kernel_rfl
@[go_sem] theorem z67 : tyZ Try.prog 67 = some ((.int .i64 (0)) :: (.int .i64 (0)) :: (.int .i64 (0)) :: (.int .i64 (0)) :: (.str ⟨#[]⟩) :: []) := by kernel_rfl
@[go_sem] theorem fs67 : tyFs Try.prog 67 = some ((0, 1) :: (1, 1) :: (2, 3) :: []) := by kernel_rfl
@[go_sem] theorem eq67 : tyEq Try.prog 67 = some ((.int .i64) :: (.int .i64) :: (.int .i64) :: (.int .i64) :: (.str) :: []) := by kernel_rfl
@[go_sem] theorem fld67_0 : tyFld Try.prog 67 0 = some (0, 1, false) := by kernel_rfl
@[go_sem] theorem fld67_1 : tyFld Try.prog 67 1 = some (1, 1, false) := by kernel_rfl
@[go_sem] theorem fld67_2 : tyFld Try.prog 67 2 = some (2, 3, true) := by kernel_rfl
@[go_sem] theorem und68 : (Try.prog.underlying 68).isSome = true := by kernel_rfl
@[go_sem] theorem as68 : tyAS Try.prog 68 = some (true, 2) := by kernel_rfl
@[go_sem] theorem sl68 : tySl Try.prog 68 = none := by kernel_rfl
@[go_sem] theorem int68 : tyInt Try.prog 68 = none := by kernel_rfl
@[go_sem] theorem str68 : tyStr Try.prog 68 = false := by kernel_rfl
@[go_sem] theorem bool68 : tyBool Try.prog 68 = false := by kernel_rfl
@[go_sem] theorem z68 : tyZ Try.prog 68 = some ((.sl 0 true []) :: (.sl 0 true []) :: []) := by kernel_rfl
@[go_sem] theorem fs68 : tyFs Try.prog 68 = some ((0, 1) :: (1, 1) :: []) := by kernel_rfl
@[go_sem] theorem fld68_0 : tyFld Try.prog 68 0 = some (0, 1, false) := by kernel_rfl
@[go_sem] theorem fld68_1 : tyFld Try.prog 68 1 = some (1, 1, false) := by kernel_rfl
@[go_sem] theorem und69 : (Try.prog.underlying 69).isSome = true := by kernel_rfl
@[go_sem] theorem as69 : tyAS Try.prog 69 = some (true, 2) := by kernel_rfl
@[go_sem] theorem sl69 : tySl Try.prog 69 = none := by kernel_rfl
@[go_sem] theorem int69 : tyInt Try.prog 69 = none := by kernel_rfl
@[go_sem] theorem str69 : tyStr Try.prog 69 = false := by kernel_rfl
@[go_sem] theorem bool69 : tyBool Try.prog 69 = false := by kernel_rfl
@[go_sem] theorem z69 : tyZ Try.prog 69 = some ((.sl 0 true []) :: (.sl 0 true []) :: []) := by kernel_rfl
@[go_sem] theorem fs69 : tyFs Try.prog 69 = some ((0, 1) :: (1, 1) :: []) := by kernel_rfl
@[go_sem] theorem fld69_0 : tyFld Try.prog 69 0 = some (0, 1, false) := by kernel_rfl
@[go_sem] theorem fld69_1 : tyFld Try.prog 69 1 = some (1, 1, false) := by kernel_rfl
@[go_sem] theorem und70 : (Try.prog.underlying 70).isSome = true := by kernel_rfl
@[go_sem] theorem as70 : tyAS Try.prog 70 = some (false, 1) := by kernel_rfl
@[go_sem] theorem sl70 : tySl Try.prog 70 = none := by kernel_rfl
@[go_sem] theorem int70 : tyInt Try.prog 70 = none := by kernel_rfl
@[go_sem] theorem str70 : tyStr Try.prog 70 = false := by kernel_rfl
@[go_sem] theorem bool70 : tyBool Try.prog 70 = false := by kernel_rfl
@[go_sem] theorem z70 : tyZ Try.prog 70 = some ((.junk) :: []) := by kernel_rfl
@[go_sem] theorem und71 : (Try.prog.underlying 71).isSome = true := by kernel_rfl
@[go_sem] theorem as71 : tyAS Try.prog 71 = some (false, 1) := by kernel_rfl
@[go_sem] theorem sl71 : tySl Try.prog 71 = none := by kernel_rfl
@[go_sem] theorem int71 : tyInt Try.prog 71 = none := by kernel_rfl
@[go_sem] theorem str71 : tyStr Try.prog 71 = false := by kernel_rfl
@[go_sem] theorem bool71 : tyBool Try.prog 71 = false := by kernel_rfl
@[go_sem] theorem z71 : tyZ Try.prog 71 = some ((.junk) :: []) := by kernel_rfl
@[go_sem] theorem und72 : (Try.prog.underlying 72).isSome = true := by kernel_rfl
@[go_sem] theorem as72 : tyAS Try.prog 72 = some (false, 1) := by kernel_rfl
@[go_sem] theorem sl72 : tySl Try.prog 72 = none := by kernel_rfl
@[go_sem] theorem int72 : tyInt Try.prog 72 = none := by kernel_rfl
@[go_sem] theorem str72 : tyStr Try.prog 72 = false := by kernel_rfl
@[go_sem] theorem bool72 : tyBool Try.prog 72 = false := by kernel_rfl
@[go_sem] theorem z72 : tyZ Try.prog 72 = some ((.junk) :: []) := by kernel_rfl
@[go_sem] theorem und73 : (Try.prog.underlying 73).isSome = true := by kernel_rfl
@[go_sem] theorem as73 : tyAS Try.prog 73 = some (false, 1) := by kernel_rfl
@[go_sem] theorem sl73 : tySl Try.prog 73 = none := by kernel_rfl
@[go_sem] theorem int73 : tyInt Try.prog 73 = none := by kernel_rfl
@[go_sem] theorem str73 : tyStr Try.prog 73 = false := by kernel_rfl
@[go_sem] theorem bool73 : tyBool Try.prog 73 = false := by kernel_rfl
@[go_sem] theorem z73 : tyZ Try.prog 73 = some ((.junk) :: []) := by kernel_rfl
@[go_sem] theorem und74 : (Try.prog.underlying 74).isSome = true := by kernel_rfl
@[go_sem] theorem as74 : tyAS Try.prog 74 = some (false, 1) := by kernel_rfl
@[go_sem] theorem sl74 : tySl Try.prog 74 = none := by kernel_rfl
@[go_sem] theorem int74 : tyInt Try.prog 74 = none := by kernel_rfl
@[go_sem] theorem str74 : tyStr Try.prog 74 = false := by kernel_rfl
@[go_sem] theorem bool74 : tyBool Try.prog 74 = false := by kernel_rfl
@[go_sem] theorem z74 : tyZ Try.prog 74 = some ((.junk) :: []) := by kernel_rfl
@[go_sem] theorem und75 : (Try.prog.underlying 75).isSome = true := by kernel_rfl
@[go_sem] theorem as75 : tyAS Try.prog 75 = some (false, 1) := by kernel_rfl
@[go_sem] theorem sl75 : tySl Try.prog 75 = none := by kernel_rfl
@[go_sem] theorem int75 : tyInt Try.prog 75 = none := by kernel_rfl
@[go_sem] theorem str75 : tyStr Try.prog 75 = false := by kernel_rfl
@[go_sem] theorem bool75 : tyBool Try.prog 75 = false := by kernel_rfl
@[go_sem] theorem und76 : (Try.prog.underlying 76).isSome = true := by kernel_rfl
@[go_sem] theorem as76 : tyAS Try.prog 76 = some (false, 1) := by kernel_rfl
@[go_sem] theorem sl76 : tySl Try.prog 76 = none := by kernel_rfl
@[go_sem] theorem int76 : tyInt Try.prog 76 = none := by kernel_rfl
@[go_sem] theorem str76 : tyStr Try.prog 76 = false := by kernel_rfl
@[go_sem] theorem bool76 : tyBool Try.prog 76 = false := by kernel_rfl
@[go_sem] theorem z76 : tyZ Try.prog 76 = some ((.junk) :: []) := by kernel_rfl
@[go_sem] theorem und77 : (Try.prog.underlying 77).isSome = true := by kernel_rfl
@[go_sem] theorem as77 : tyAS Try.prog 77 = some (false, 1) := by kernel_rfl
@[go_sem] theorem sl77 : tySl Try.prog 77 = none := by kernel_rfl
@[go_sem] theorem int77 : tyInt Try.prog 77 = none := by kernel_rfl
@[go_sem] theorem str77 : tyStr Try.prog 77 = false := by kernel_rfl
@[go_sem] theorem bool77 : tyBool Try.prog 77 = false := by kernel_rfl
@[go_sem] theorem z77 : tyZ Try.prog 77 = some ((.junk) :: []) := by kernel_rfl
@[go_sem] theorem und78 : (Try.prog.underlying 78).isSome = true := by kernel_rfl
@[go_sem] theorem as78 : tyAS Try.prog 78 = some (false, 1) := by kernel_rfl
@[go_sem] theorem sl78 : tySl Try.prog 78 = none := by kernel_rfl
@[go_sem] theorem int78 : tyInt Try.prog 78 = none := by kernel_rfl
@[go_sem] theorem str78 : tyStr Try.prog 78 = false := by kernel_rfl
@[go_sem] theorem bool78 : tyBool Try.prog 78 = false := by kernel_rfl
@[go_sem] theorem z78 : tyZ Try.prog 78 = some ((.junk) :: []) := by kernel_rfl
@[go_sem] theorem und79 : (Try.prog.underlying 79).isSome = true := by kernel_rfl
@[go_sem] theorem as79 : tyAS Try.prog 79 = some (false, 1) := by kernel_rfl
@[go_sem] theorem sl79 : tySl Try.prog 79 = none := by kernel_rfl
@[go_sem] theorem int79 : tyInt Try.prog 79 = none := by kernel_rfl
@[go_sem] theorem str79 : tyStr Try.prog 79 = false := by kernel_rfl
@[go_sem] theorem bool79 : tyBool Try.prog 79 = false := by kernel_rfl
@[go_sem] theorem und80 : (Try.prog.underlying 80).isSome = true := by kernel_rfl
@[go_sem] theorem as80 : tyAS Try.prog 80 = some (false, 1) := by kernel_rfl
@[go_sem] theorem sl80 : tySl Try.prog 80 = none := by kernel_rfl
@[go_sem] theorem int80 : tyInt Try.prog 80 = none := by kernel_rfl
@[go_sem] theorem str80 : tyStr Try.prog 80 = false := by kernel_rfl
@[go_sem] theorem bool80 : tyBool Try.prog 80 = false := by kernel_rfl
@[go_sem] theorem z80 : tyZ Try.prog 80 = some ((.junk) :: []) := by kernel_rfl
@[go_sem] theorem und81 : (Try.prog.underlying 81).isSome = true := by kernel_rfl
@[go_sem] theorem as81 : tyAS Try.prog 81 = some (false, 1) := by kernel_rfl
@[go_sem] theorem sl81 : tySl Try.prog 81 = none := by kernel_rfl
@[go_sem] theorem int81 : tyInt Try.prog 81 = none := by kernel_rfl
@[go_sem] theorem str81 : tyStr Try.prog 81 = false := by kernel_rfl
@[go_sem] theorem bool81 : tyBool Try.prog 81 = false := by kernel_rfl
@[go_sem] theorem z81 : tyZ Try.prog 81 = some ((.junk) :: []) := by kernel_rfl
@[go_sem] theorem und82 : (Try.prog.underlying 82).isSome = true := by kernel_rfl
@[go_sem] theorem as82 : tyAS Try.prog 82 = some (false, 1) := by kernel_rfl
@[go_sem] theorem sl82 : tySl Try.prog 82 = none := by kernel_rfl
@[go_sem] theorem int82 : tyInt Try.prog 82 = none := by kernel_rfl
@[go_sem] theorem str82 : tyStr Try.prog 82 = false := by kernel_rfl
@[go_sem] theorem bool82 : tyBool Try.prog 82 = false := by kernel_rfl
@[go_sem] theorem z82 : tyZ Try.prog 82 = some ((.junk) :: []) := by kernel_rfl
@[go_sem] theorem und83 : (Try.prog.underlying 83).isSome = true := by kernel_rfl
@[go_sem] theorem as83 : tyAS Try.prog 83 = some (false, 1) := by kernel_rfl
@[go_sem] theorem sl83 : tySl Try.prog 83 = none := by kernel_rfl
@[go_sem] theorem int83 : tyInt Try.prog 83 = none := by kernel_rfl
@[go_sem] theorem str83 : tyStr Try.prog 83 = false := by kernel_rfl
@[go_sem] theorem bool83 : tyBool Try.prog 83 = false := by kernel_rfl
@[go_sem] theorem z83 : tyZ Try.prog 83 = some ((.junk) :: []) := by kernel_rfl
@[go_sem] theorem und84 : (Try.prog.underlying 84).isSome = true := by kernel_rfl
@[go_sem] theorem as84 : tyAS Try.prog 84 = some (false, 1) := by kernel_rfl
@[go_sem] theorem sl84 : tySl Try.prog 84 = none := by kernel_rfl
@[go_sem] theorem int84 : tyInt Try.prog 84 = none := by kernel_rfl
@[go_sem] theorem str84 : tyStr Try.prog 84 = false := by kernel_rfl
@[go_sem] theorem bool84 : tyBool Try.prog 84 = false := by kernel_rfl
@[go_sem] theorem z84 : tyZ Try.prog 84 = some ((.junk) :: []) := by kernel_rfl
@[go_sem] theorem und85 : (Try.prog.underlying 85).isSome = true := by kernel_rfl
@[go_sem] theorem as85 : tyAS Try.prog 85 = some (false, 1) := by kernel_rfl
@[go_sem] theorem sl85 : tySl Try.prog 85 = none := by kernel_rfl
@[go_sem] theorem int85 : tyInt Try.prog 85 = none := by kernel_rfl
@[go_sem] theorem str85 : tyStr Try.prog 85 = false := by kernel_rfl
@[go_sem] theorem bool85 : tyBool Try.prog 85 = false := by kernel_rfl
@[go_sem] theorem z85 : tyZ Try.prog 85 = some ((.junk) :: []) := by kernel_rfl
@[go_sem] theorem und86 : (Try.prog.underlying 86).isSome = true := by kernel_rfl
@[go_sem] theorem as86 : tyAS Try.prog 86 = some (false, 1) := by kernel_rfl
@[go_sem] theorem sl86 : tySl Try.prog 86 = some (112, 3, 32) := by kernel_rfl
@[go_sem] theorem int86 : tyInt Try.prog 86 = none := by kernel_rfl
@[go_sem] theorem str86 : tyStr Try.prog 86 = false := by kernel_rfl
@[go_sem] theorem bool86 : tyBool Try.prog 86 = false := by kernel_rfl
@[go_sem] theorem z86 : tyZ Try.prog 86 = some ((.sl 0 true []) :: []) := by kernel_rfl
@[go_sem] theorem und87 : (Try.prog.underlying 87).isSome = true := by kernel_rfl
@[go_sem] theorem as87 : tyAS Try.prog 87 = some (false, 1) := by kernel_rfl
@[go_sem] theorem sl87 : tySl Try.prog 87 = none := by kernel_rfl
@[go_sem] theorem int87 : tyInt Try.prog 87 = none := by kernel_rfl
@[go_sem] theorem str87 : tyStr Try.prog 87 = false := by kernel_rfl
@[go_sem] theorem bool87 : tyBool Try.prog 87 = false := by kernel_rfl
@[go_sem] theorem z87 : tyZ Try.prog 87 = some ((.junk) :: []) := by kernel_rfl
@[go_sem] theorem und88 : (Try.prog.underlying 88).isSome = true := by kernel_rfl
@[go_sem] theorem as88 : tyAS Try.prog 88 = some (false, 1) := by kernel_rfl
@[go_sem] theorem sl88 : tySl Try.prog 88 = none := by kernel_rfl
@[go_sem] theorem int88 : tyInt Try.prog 88 = none := by kernel_rfl
@[go_sem] theorem str88 : tyStr Try.prog 88 = false := by kernel_rfl
@[go_sem] theorem bool88 : tyBool Try.prog 88 = false := by kernel_rfl
@[go_sem] theorem z88 : tyZ Try.prog 88 = some ((.junk) :: []) := by kernel_rfl
@[go_sem] theorem und89 : (Try.prog.underlying 89).isSome = true := by kernel_rfl
@[go_sem] theorem as89 : tyAS Try.prog 89 = some (false, 1) := by kernel_rfl
@[go_sem] theorem sl89 : tySl Try.prog 89 = none := by kernel_rfl
@[go_sem] theorem int89 : tyInt Try.prog 89 = none := by kernel_rfl
@[go_sem] theorem str89 : tyStr Try.prog 89 = false := by kernel_rfl
@[go_sem] theorem bool89 : tyBool Try.prog 89 = false := by kernel_rfl
@[go_sem] theorem z89 : tyZ Try.prog 89 = some ((.junk) :: []) := by kernel_rfl
@[go_sem] theorem und90 : (Try.prog.underlying 90).isSome = true := by kernel_rfl
@[go_sem] theorem as90 : tyAS Try.prog 90 = some (false, 1) := by kernel_rfl
@[go_sem] theorem sl90 : tySl Try.prog 90 = none := by kernel_rfl
@[go_sem] theorem int90 : tyInt Try.prog 90 = none := by kernel_rfl
@[go_sem] theorem str90 : tyStr Try.prog 90 = false := by kernel_rfl
@[go_sem] theorem bool90 : tyBool Try.prog 90 = false := by kernel_rfl
@[go_sem] theorem z90 : tyZ Try.prog 90 = some ((.junk) :: []) := by kernel_rfl
@[go_sem] theorem und91 : (Try.prog.underlying 91).isSome = true := by kernel_rfl
@[go_sem] theorem as91 : tyAS Try.prog 91 = some (false, 1) := by kernel_rfl
@[go_sem] theorem sl91 : tySl Try.prog 91 = none := by kernel_rfl
@[go_sem] theorem int91 : tyInt Try.prog 91 = none := by kernel_rfl
@[go_sem] theorem str91 : tyStr Try.prog 91 = false := by kernel_rfl
@[go_sem] theorem bool91 : tyBool Try.prog 91 = false := by kernel_rfl
@[go_sem] theorem z91 : tyZ Try.prog 91 = some ((.junk) :: []) := by kernel_rfl
@[go_sem] theorem und92 : (Try.prog.underlying 92).isSome = true := by kernel_rfl
@[go_sem] theorem as92 : tyAS Try.prog 92 = some (false, 1) := by kernel_rfl
@[go_sem] theorem sl92 : tySl Try.prog 92 = none := by kernel_rfl
@[go_sem] theorem int92 : tyInt Try.prog 92 = none := by kernel_rfl
@[go_sem] theorem str92 : tyStr Try.prog 92 = false := by kernel_rfl
@[go_sem] theorem bool92 : tyBool Try.prog 92 = false := by kernel_rfl
@[go_sem] theorem z92 : tyZ Try.prog 92 = some ((.junk) :: []) := by kernel_rfl
@[go_sem] theorem und93 : (Try.prog.underlying 93).isSome = true := by kernel_rfl
@[go_sem] theorem as93 : tyAS Try.prog 93 = some (false, 1) := by kernel_rfl
@[go_sem] theorem sl93 : tySl Try.prog 93 = none := by kernel_rfl
@[go_sem] theorem int93 : tyInt Try.prog 93 = none := by kernel_rfl
@[go_sem] theorem str93 : tyStr Try.prog 93 = false := by kernel_rfl
@[go_sem] theorem bool93 : tyBool Try.prog 93 = false := by kernel_rfl
@[go_sem] theorem z93 : tyZ Try.prog 93 = some ((.nilp) :: []) := by kernel_rfl
@[go_sem] theorem und94 : (Try.prog.underlying 94).isSome = true := by kernel_rfl
@[go_sem] theorem as94 : tyAS Try.prog 94 = some (false, 1) := by kernel_rfl
@[go_sem] theorem sl94 : tySl Try.prog 94 = none := by kernel_rfl
@[go_sem] theorem int94 : tyInt Try.prog 94 = none := by kernel_rfl
@[go_sem] theorem str94 : tyStr Try.prog 94 = false := by kernel_rfl
@[go_sem] theorem bool94 : tyBool Try.prog 94 = false := by kernel_rfl
@[go_sem] theorem z94 : tyZ Try.prog 94 = some ((.junk) :: []) := by kernel_rfl
@[go_sem] theorem und95 : (Try.prog.underlying 95).isSome = true := by kernel_rfl
@[go_sem] theorem as95 : tyAS Try.prog 95 = some (false, 1) := by kernel_rfl
@[go_sem] theorem sl95 : tySl Try.prog 95 = none := by kernel_rfl
@[go_sem] theorem int95 : tyInt Try.prog 95 = none := by kernel_rfl
@[go_sem] theorem str95 : tyStr Try.prog 95 = false := by kernel_rfl
@[go_sem] theorem bool95 : tyBool Try.prog 95 = false := by kernel_rfl
@[go_sem] theorem z95 : tyZ Try.prog 95 = some ((.junk) :: []) := by kernel_rfl
@[go_sem] theorem und96 : (Try.prog.underlying 96).isSome = true := by kernel_rfl
@[go_sem] theorem as96 : tyAS Try.prog 96 = some (false, 1) := by kernel_rfl
@[go_sem] theorem sl96 : tySl Try.prog 96 = none := by kernel_rfl
@[go_sem] theorem int96 : tyInt Try.prog 96 = none := by kernel_rfl
@[go_sem] theorem str96 : tyStr Try.prog 96 = false := by kernel_rfl
@[go_sem] theorem bool96 : tyBool Try.prog 96 = false := by kernel_rfl
@[go_sem] theorem z96 : tyZ Try.prog 96 = some ((.junk) :: []) := by kernel_rfl
@[go_sem] theorem und97 : (Try.prog.underlying 97).isSome = true := by kernel_rfl
@[go_sem] theorem as97 : tyAS Try.prog 97 = some (false, 1) := by kernel_rfl
@[go_sem] theorem sl97 : tySl Try.prog 97 = none := by kernel_rfl
@[go_sem] theorem int97 : tyInt Try.prog 97 = none := by kernel_rfl
@[go_sem] theorem str97 : tyStr Try.prog 97 = false := by kernel_rfl
@[go_sem] theorem bool97 : tyBool Try.prog 97 = false := by kernel_rfl
@[go_sem] theorem z97 : tyZ Try.prog 97 = some ((.junk) :: []) := by kernel_rfl
@[go_sem] theorem und98 : (Try.prog.underlying 98).isSome = true := by kernel_rfl
@[go_sem] theorem as98 : tyAS Try.prog 98 = some (false, 1) := by kernel_rfl
@[go_sem] theorem sl98 : tySl Try.prog 98 = none := by kernel_rfl
@[go_sem] theorem int98 : tyInt Try.prog 98 = none := by kernel_rfl
@[go_sem] theorem str98 : tyStr Try.prog 98 = false := by kernel_rfl
@[go_sem] theorem bool98 : tyBool Try.prog 98 = false := by kernel_rfl
@[go_sem] theorem z98 : tyZ Try.prog 98 = some ((.junk) :: []) := by kernel_rfl
@[go_sem] theorem und99 : (Try.prog.underlying 99).isSome = true := by kernel_rfl
@[go_sem] theorem as99 : tyAS Try.prog 99 = some (false, 1) := by kernel_rfl
@[go_sem] theorem sl99 : tySl Try.prog 99 = none := by kernel_rfl
@[go_sem] theorem int99 : tyInt Try.prog 99 = none := by kernel_rfl
@[go_sem] theorem str99 : tyStr Try.prog 99 = false := by kernel_rfl
@[go_sem] theorem bool99 : tyBool Try.prog 99 = false := by kernel_rfl
@[go_sem] theorem und100 : (Try.prog.underlying 100).isSome = true := by kernel_rfl
@[go_sem] theorem as100 : tyAS Try.prog 100 = some (false, 1) := by kernel_rfl
@[go_sem] theorem sl100 : tySl Try.prog 100 = none := by kernel_rfl
@[go_sem] theorem int100 : tyInt Try.prog 100 = none := by kernel_rfl
@[go_sem] theorem str100 : tyStr Try.prog 100 = false := by kernel_rfl
@[go_sem] theorem bool100 : tyBool Try.prog 100 = false := by kernel_rfl
@[go_sem] theorem z100 : tyZ Try.prog 100 = some ((.junk) :: []) := by kernel_rfl
@[go_sem] theorem und101 : (Try.prog.underlying 101).isSome = true := by kernel_rfl
@[go_sem] theorem as101 : tyAS Try.prog 101 = some (false, 1) := by kernel_rfl
@[go_sem] theorem sl101 : tySl Try.prog 101 = none := by kernel_rfl
@[go_sem] theorem int101 : tyInt Try.prog 101 = none := by kernel_rfl
@[go_sem] theorem str101 : tyStr Try.prog 101 = false := by kernel_rfl
@[go_sem] theorem bool101 : tyBool Try.prog 101 = false := by kernel_rfl
@[go_sem] theorem z101 : tyZ Try.prog 101 = some ((.junk) :: []) := by kernel_rfl
@[go_sem] theorem und102 : (Try.prog.underlying 102).isSome = true := by kernel_rfl
@[go_sem] theorem as102 : tyAS Try.prog 102 = some (false, 1) := by kernel_rfl
@[go_sem] theorem sl102 : tySl Try.prog 102 = none := by kernel_rfl
@[go_sem] theorem int102 : tyInt Try.prog 102 = none := by kernel_rfl
@[go_sem] theorem str102 : tyStr Try.prog 102 = false := by kernel_rfl
@[go_sem] theorem bool102 : tyBool Try.prog 102 = false := by kernel_rfl
@[go_sem] theorem z102 : tyZ Try.prog 102 = some ((.junk) :: []) := by kernel_rfl
@[go_sem] theorem und103 : (Try.prog.underlying 103).isSome = true := by kernel_rfl
@[go_sem] theorem as103 : tyAS Try.prog 103 = some (false, 1) := by kernel_rfl
@[go_sem] theorem sl103 : tySl Try.prog 103 = none := by kernel_rfl
@[go_sem] theorem int103 : tyInt Try.prog 103 = none := by kernel_rfl
@[go_sem] theorem str103 : tyStr Try.prog 103 = false := by kernel_rfl
@[go_sem] theorem bool103 : tyBool Try.prog 103 = false := by kernel_rfl
@[go_sem] theorem z103 : tyZ Try.prog 103 = some ((.junk) :: []) := by kernel_rfl
@[go_sem] theorem und104 : (Try.prog.underlying 104).isSome = true := by kernel_rfl
@[go_sem] theorem as104 : tyAS Try.prog 104 = some (false, 1) := by kernel_rfl
@[go_sem] theorem sl104 : tySl Try.prog 104 = none := by kernel_rfl
@[go_sem] theorem int104 : tyInt Try.prog 104 = none := by kernel_rfl
@[go_sem] theorem str104 : tyStr Try.prog 104 = false := by kernel_rfl
@[go_sem] theorem bool104 : tyBool Try.prog 104 = false := by kernel_rfl
@[go_sem] theorem z104 : tyZ Try.prog 104 = some ((.junk) :: []) := by kernel_rfl
@[go_sem] theorem und105 : (Try.prog.underlying 105).isSome = true := by kernel_rfl
@[go_sem] theorem as105 : tyAS Try.prog 105 = some (false, 1) := by kernel_rfl
@[go_sem] theorem sl105 : tySl Try.prog 105 = none := by kernel_rfl
@[go_sem] theorem int105 : tyInt Try.prog 105 = none := by kernel_rfl
@[go_sem] theorem str105 : tyStr Try.prog 105 = false := by kernel_rfl
@[go_sem] theorem bool105 : tyBool Try.prog 105 = false := by kernel_rfl
@[go_sem] theorem z105 : tyZ Try.prog 105 = some ((.junk) :: []) := by kernel_rfl
@[go_sem] theorem und106 : (Try.prog.underlying 106).isSome = true := by kernel_rfl
@[go_sem] theorem as106 : tyAS Try.prog 106 = some (false, 1) := by kernel_rfl
@[go_sem] theorem sl106 : tySl Try.prog 106 = none := by kernel_rfl
@[go_sem] theorem int106 : tyInt Try.prog 106 = none := by kernel_rfl
@[go_sem] theorem str106 : tyStr Try.prog 106 = false := by kernel_rfl
@[go_sem] theorem bool106 : tyBool Try.prog 106 = false := by kernel_rfl
@[go_sem] theorem und107 : (Try.prog.underlying 107).isSome = true := by kernel_rfl
@[go_sem] theorem as107 : tyAS Try.prog 107 = some (false, 1) := by kernel_rfl
@[go_sem] theorem sl107 : tySl Try.prog 107 = none := by kernel_rfl
@[go_sem] theorem int107 : tyInt Try.prog 107 = none := by kernel_rfl
@[go_sem] theorem str107 : tyStr Try.prog 107 = false := by kernel_rfl
@[go_sem] theorem bool107 : tyBool Try.prog 107 = false := by kernel_rfl
@[go_sem] theorem z107 : tyZ Try.prog 107 = some ((.junk) :: []) := by kernel_rfl
@[go_sem] theorem und108 : (Try.prog.underlying 108).isSome = true := by kernel_rfl
@[go_sem] theorem as108 : tyAS Try.prog 108 = some (false, 1) := by kernel_rfl
@[go_sem] theorem sl108 : tySl Try.prog 108 = none := by kernel_rfl
@[go_sem] theorem int108 : tyInt Try.prog 108 = none := by kernel_rfl
@[go_sem] theorem str108 : tyStr Try.prog 108 = false := by kernel_rfl
@[go_sem] theorem bool108 : tyBool Try.prog 108 = false := by kernel_rfl
@[go_sem] theorem z108 : tyZ Try.prog 108 = some ((.junk) :: []) := by kernel_rfl
@[go_sem] theorem und109 : (Try.prog.underlying 109).isSome = true := by kernel_rfl
@[go_sem] theorem as109 : tyAS Try.prog 109 = some (false, 1) := by kernel_rfl
@[go_sem] theorem sl109 : tySl Try.prog 109 = none := by kernel_rfl
@[go_sem] theorem int109 : tyInt Try.prog 109 = none := by kernel_rfl
@[go_sem] theorem str109 : tyStr Try.prog 109 = false := by kernel_rfl
@[go_sem] theorem bool109 : tyBool Try.prog 109 = false := by kernel_rfl
@[go_sem] theorem z109 : tyZ Try.prog 109 = some ((.junk) :: []) := by kernel_rfl
@[go_sem] theorem und110 : (Try.prog.underlying 110).isSome = true := by kernel_rfl
@[go_sem] theorem as110 : tyAS Try.prog 110 = some (false, 1) := by kernel_rfl
@[go_sem] theorem sl110 : tySl Try.prog 110 = none := by kernel_rfl
@[go_sem] theorem int110 : tyInt Try.prog 110 = none := by kernel_rfl
@[go_sem] theorem str110 : tyStr Try.prog 110 = false := by kernel_rfl
@[go_sem] theorem bool110 : tyBool Try.prog 110 = false := by kernel_rfl
@[go_sem] theorem z110 : tyZ Try.prog 110 = some ((.junk) :: []) := by kernel_rfl
@[go_sem] theorem und111 : (Try.prog.underlying 111).isSome = true := by kernel_rfl
@[go_sem] theorem as111 : tyAS Try.prog 111 = some (false, 1) := by kernel_rfl
@[go_sem] theorem sl111 : tySl Try.prog 111 = none := by kernel_rfl
@[go_sem] theorem int111 : tyInt Try.prog 111 = none := by kernel_rfl
@[go_sem] theorem str111 : tyStr Try.prog 111 = false := by kernel_rfl
@[go_sem] theorem bool111 : tyBool Try.prog 111 = false := by kernel_rfl
@[go_sem] theorem z111 : tyZ Try.prog 111 = some ((.junk) :: []) := by kernel_rfl
@[go_sem] theorem und112 : (Try.prog.underlying 112).isSome = true := by kernel_rfl
@[go_sem] theorem as112 : tyAS Try.prog 112 = some (true, 3) := by kernel_rfl
@[go_sem] theorem sl112 : tySl Try.prog 112 = none := by kernel_rfl
@[go_sem] theorem int112 : tyInt Try.prog 112 = none := by kernel_rfl
@[go_sem] theorem str112 : tyStr Try.prog 112 = false := by kernel_rfl
@[go_sem] theorem bool112 : tyBool Try.prog 112 = false := by kernel_rfl
@[go_sem] theorem z112 : tyZ Try.prog 112 = some ((.int .i64 (0)) :: (.int .i64 (0)) :: (.str ⟨#[]⟩) :: []) := by kernel_rfl
@[go_sem] theorem fs112 : tyFs Try.prog 112 = some ((0, 1) :: (1, 1) :: (2, 1) :: []) := by kernel_rfl
@[go_sem] theorem eq112 : tyEq Try.prog 112 = some ((.int .i64) :: (.int .i64) :: (.str) :: []) := by kernel_rfl
@[go_sem] theorem fld112_0 : tyFld Try.prog 112 0 = some (0, 1, false) := by kernel_rfl
@[go_sem] theorem fld112_1 : tyFld Try.prog 112 1 = some (1, 1, false) := by kernel_rfl
@[go_sem] theorem fld112_2 : tyFld Try.prog 112 2 = some (2, 1, false) := by kernel_rfl
@[go_sem] theorem und113 : (Try.prog.underlying 113).isSome = true := by kernel_rfl
@[go_sem] theorem as113 : tyAS Try.prog 113 = some (true, 5) := by kernel_rfl
@[go_sem] theorem sl113 : tySl Try.prog 113 = none := by kernel_rfl
@[go_sem] theorem int113 : tyInt Try.prog 113 = none := by kernel_rfl
@[go_sem] theorem str113 : tyStr Try.prog 113 = false := by kernel_rfl
@[go_sem] theorem bool113 : tyBool Try.prog 113 = false := by kernel_rfl
@[go_sem] theorem z113 : tyZ Try.prog 113 = some ((.int .i64 (0)) :: (.int .i64 (0)) :: (.int .i64 (0)) :: (.int .i64 (0)) :: (.str ⟨#[]⟩) :: []) := by kernel_rfl
@[go_sem] theorem fs113 : tyFs Try.prog 113 = some ((0, 1) :: (1, 1) :: (2, 3) :: []) := by kernel_rfl
@[go_sem] theorem eq113 : tyEq Try.prog 113 = some ((.int .i64) :: (.int .i64) :: (.int .i64) :: (.int .i64) :: (.str) :: []) := by kernel_rfl
@[go_sem] theorem fld113_0 : tyFld Try.prog 113 0 = some (0, 1, false) := by kernel_rfl
@[go_sem] theorem fld113_1 : tyFld Try.prog 113 1 = some (1, 1, false) := by kernel_rfl
@[go_sem] theorem fld113_2 : tyFld Try.prog 113 2 = some (2, 3, true) := by kernel_rfl
@[go_sem] theorem und114 : (Try.prog.underlying 114).isSome = true := by kernel_rfl
@[go_sem] theorem as114 : tyAS Try.prog 114 = some (true, 5) := by kernel_rfl
@[go_sem] theorem sl114 : tySl Try.prog 114 = none := by kernel_rfl
@[go_sem] theorem int114 : tyInt Try.prog 114 = none := by kernel_rfl
@[go_sem] theorem str114 : tyStr Try.prog 114 = false := by kernel_rfl
@[go_sem] theorem bool114 : tyBool Try.prog 114 = false := by kernel_rfl
@[go_sem] theorem z114 : tyZ Try.prog 114 = some ((.int .i64 (0)) :: (.int .i64 (0)) :: (.int .i64 (0)) :: (.int .i64 (0)) :: (.str ⟨#[]⟩) :: []) := by kernel_rfl
@[go_sem] theorem fs114 : tyFs Try.prog 114 = some ((0, 1) :: (1, 1) :: (2, 3) :: []) := by kernel_rfl
@[go_sem] theorem eq114 : tyEq Try.prog 114 = some ((.int .i64) :: (.int .i64) :: (.int .i64) :: (.int .i64) :: (.str) :: []) := by kernel_rfl
@[go_sem] theorem fld114_0 : tyFld Try.prog 114 0 = some (0, 1, false) := by kernel_rfl
@[go_sem] theorem fld114_1 : tyFld Try.prog 114 1 = some (1, 1, false) := by kernel_rfl
@[go_sem] theorem fld114_2 : tyFld Try.prog 114 2 = some (2, 3, true) := by kernel_rfl
@[go_sem] theorem und115 : (Try.prog.underlying 115).isSome = true := by kernel_rfl
@[go_sem] theorem as115 : tyAS Try.prog 115 = some (false, 1) := by kernel_rfl
@[go_sem] theorem sl115 : tySl Try.prog 115 = none := by kernel_rfl
@[go_sem] theorem int115 : tyInt Try.prog 115 = none := by kernel_rfl
@[go_sem] theorem str115 : tyStr Try.prog 115 = false := by kernel_rfl
@[go_sem] theorem bool115 : tyBool Try.prog 115 = false := by kernel_rfl
@[go_sem] theorem z115 : tyZ Try.prog 115 = some ((.junk) :: []) := by kernel_rfl
@[go_sem] theorem und116 : (Try.prog.underlying 116).isSome = true := by kernel_rfl
@[go_sem] theorem as116 : tyAS Try.prog 116 = some (false, 1) := by kernel_rfl
@[go_sem] theorem sl116 : tySl Try.prog 116 = some (3, 1, 8) := by kernel_rfl
@[go_sem] theorem int116 : tyInt Try.prog 116 = none := by kernel_rfl
@[go_sem] theorem str116 : tyStr Try.prog 116 = false := by kernel_rfl
@[go_sem] theorem bool116 : tyBool Try.prog 116 = false := by kernel_rfl
@[go_sem] theorem z116 : tyZ Try.prog 116 = some ((.sl 0 true []) :: []) := by kernel_rfl
@[go_sem] theorem und117 : (Try.prog.underlying 117).isSome = true := by kernel_rfl
@[go_sem] theorem as117 : tyAS Try.prog 117 = some (false, 1) := by kernel_rfl
@[go_sem] theorem sl117 : tySl Try.prog 117 = none := by kernel_rfl
@[go_sem] theorem int117 : tyInt Try.prog 117 = none := by kernel_rfl
@[go_sem] theorem str117 : tyStr Try.prog 117 = false := by kernel_rfl
@[go_sem] theorem bool117 : tyBool Try.prog 117 = false := by kernel_rfl
@[go_sem] theorem und118 : (Try.prog.underlying 118).isSome = true := by kernel_rfl
@[go_sem] theorem as118 : tyAS Try.prog 118 = some (false, 1) := by kernel_rfl
@[go_sem] theorem sl118 : tySl Try.prog 118 = none := by kernel_rfl
@[go_sem] theorem int118 : tyInt Try.prog 118 = none := by kernel_rfl
@[go_sem] theorem str118 : tyStr Try.prog 118 = false := by kernel_rfl
@[go_sem] theorem bool118 : tyBool Try.prog 118 = false := by kernel_rfl
@[go_sem] theorem z118 : tyZ Try.prog 118 = some ((.junk) :: []) := by kernel_rfl
@[go_sem] theorem und119 : (Try.prog.underlying 119).isSome = true := by kernel_rfl
@[go_sem] theorem as119 : tyAS Try.prog 119 = some (true, 2) := by kernel_rfl
@[go_sem] theorem sl119 : tySl Try.prog 119 = none := by kernel_rfl
@[go_sem] theorem int119 : tyInt Try.prog 119 = none := by kernel_rfl
@[go_sem] theorem str119 : tyStr Try.prog 119 = false := by kernel_rfl
@[go_sem] theorem bool119 : tyBool Try.prog 119 = false := by kernel_rfl
@[go_sem] theorem z119 : tyZ Try.prog 119 = some ((.int .i64 (0)) :: (.bool false) :: []) := by kernel_rfl
@[go_sem] theorem fs119 : tyFs Try.prog 119 = some ((0, 1) :: (1, 1) :: []) := by kernel_rfl
@[go_sem] theorem eq119 : tyEq Try.prog 119 = some ((.int .i64) :: (.bool) :: []) := by kernel_rfl
@[go_sem] theorem fld119_0 : tyFld Try.prog 119 0 = some (0, 1, false) := by kernel_rfl
@[go_sem] theorem fld119_1 : tyFld Try.prog 119 1 = some (1, 1, false) := by kernel_rfl
@[go_sem] theorem und120 : (Try.prog.underlying 120).isSome = true := by kernel_rfl
@[go_sem] theorem as120 : tyAS Try.prog 120 = some (true, 2) := by kernel_rfl
@[go_sem] theorem sl120 : tySl Try.prog 120 = none := by kernel_rfl
@[go_sem] theorem int120 : tyInt Try.prog 120 = none := by kernel_rfl
@[go_sem] theorem str120 : tyStr Try.prog 120 = false := by kernel_rfl
@[go_sem] theorem bool120 : tyBool Try.prog 120 = false := by kernel_rfl
@[go_sem] theorem z120 : tyZ Try.prog 120 = some ((.int .i64 (0)) :: (.bool false) :: []) := by kernel_rfl
@[go_sem] theorem fs120 : tyFs Try.prog 120 = some ((0, 1) :: (1, 1) :: []) := by kernel_rfl
@[go_sem] theorem eq120 : tyEq Try.prog 120 = some ((.int .i64) :: (.bool) :: []) := by kernel_rfl
@[go_sem] theorem fld120_0 : tyFld Try.prog 120 0 = some (0, 1, false) := by kernel_rfl
@[go_sem] theorem fld120_1 : tyFld Try.prog 120 1 = some (1, 1, false) := by kernel_rfl
@[go_sem] theorem und121 : (Try.prog.underlying 121).isSome = true := by kernel_rfl
@[go_sem] theorem as121 : tyAS Try.prog 121 = some (false, 1) := by kernel_rfl
@[go_sem] theorem sl121 : tySl Try.prog 121 = none := by kernel_rfl
@[go_sem] theorem int121 : tyInt Try.prog 121 = none := by kernel_rfl
@[go_sem] theorem str121 : tyStr Try.prog 121 = false := by kernel_rfl
@[go_sem] theorem bool121 : tyBool Try.prog 121 = false := by kernel_rfl
@[go_sem] theorem z121 : tyZ Try.prog 121 = some ((.junk) :: []) := by kernel_rfl
@[go_sem] theorem und122 : (Try.prog.underlying 122).isSome = true := by kernel_rfl
@[go_sem] theorem as122 : tyAS Try.prog 122 = some (true, 2) := by kernel_rfl
@[go_sem] theorem sl122 : tySl Try.prog 122 = none := by kernel_rfl
@[go_sem] theorem int122 : tyInt Try.prog 122 = none := by kernel_rfl
@[go_sem] theorem str122 : tyStr Try.prog 122 = false := by kernel_rfl
@[go_sem] theorem bool122 : tyBool Try.prog 122 = false := by kernel_rfl
@[go_sem] theorem z122 : tyZ Try.prog 122 = some ((.int .i64 (0)) :: (.bool false) :: []) := by kernel_rfl
@[go_sem] theorem fs122 : tyFs Try.prog 122 = some ((0, 1) :: (1, 1) :: []) := by kernel_rfl
@[go_sem] theorem eq122 : tyEq Try.prog 122 = some ((.int .i64) :: (.bool) :: []) := by kernel_rfl
@[go_sem] theorem fld122_0 : tyFld Try.prog 122 0 = some (0, 1, false) := by kernel_rfl
@[go_sem] theorem fld122_1 : tyFld Try.prog 122 1 = some (1, 1, false) := by kernel_rfl
@[go_sem] theorem und123 : (Try.prog.underlying 123).isSome = true := by kernel_rfl
@[go_sem] theorem as123 : tyAS Try.prog 123 = some (false, 1) := by kernel_rfl
@[go_sem] theorem sl123 : tySl Try.prog 123 = none := by kernel_rfl
@[go_sem] theorem int123 : tyInt Try.prog 123 = none := by kernel_rfl
@[go_sem] theorem str123 : tyStr Try.prog 123 = false := by kernel_rfl
@[go_sem] theorem bool123 : tyBool Try.prog 123 = false := by kernel_rfl
@[go_sem] theorem z123 : tyZ Try.prog 123 = some ((.junk) :: []) := by kernel_rfl
@[go_sem] theorem und124 : (Try.prog.underlying 124).isSome = true := by kernel_rfl
@[go_sem] theorem as124 : tyAS Try.prog 124 = some (false, 1) := by kernel_rfl
@[go_sem] theorem sl124 : tySl Try.prog 124 = none := by kernel_rfl
@[go_sem] theorem int124 : tyInt Try.prog 124 = none := by kernel_rfl
@[go_sem] theorem str124 : tyStr Try.prog 124 = false := by kernel_rfl
@[go_sem] theorem bool124 : tyBool Try.prog 124 = false := by kernel_rfl
@[go_sem] theorem z124 : tyZ Try.prog 124 = some ((.junk) :: []) := by kernel_rfl
@[go_sem] theorem und125 : (Try.prog.underlying 125).isSome = true := by kernel_rfl
@[go_sem] theorem as125 : tyAS Try.prog 125 = some (false, 1) := by kernel_rfl
@[go_sem] theorem sl125 : tySl Try.prog 125 = none := by kernel_rfl
@[go_sem] theorem int125 : tyInt Try.prog 125 = none := by kernel_rfl
@[go_sem] theorem str125 : tyStr Try.prog 125 = false := by kernel_rfl
@[go_sem] theorem bool125 : tyBool Try.prog 125 = false := by kernel_rfl
@[go_sem] theorem und126 : (Try.prog.underlying 126).isSome = true := by kernel_rfl
@[go_sem] theorem as126 : tyAS Try.prog 126 = some (false, 1) := by kernel_rfl
@[go_sem] theorem sl126 : tySl Try.prog 126 = none := by kernel_rfl
@[go_sem] theorem int126 : tyInt Try.prog 126 = none := by kernel_rfl
@[go_sem] theorem str126 : tyStr Try.prog 126 = false := by kernel_rfl
@[go_sem] theorem bool126 : tyBool Try.prog 126 = false := by kernel_rfl
@[go_sem] theorem z126 : tyZ Try.prog 126 = some ((.junk) :: []) := by kernel_rfl
@[go_sem] theorem und127 : (Try.prog.underlying 127).isSome = true := by kernel_rfl
@[go_sem] theorem as127 : tyAS Try.prog 127 = some (false, 1) := by kernel_rfl
@[go_sem] theorem sl127 : tySl Try.prog 127 = none := by kernel_rfl
@[go_sem] theorem int127 : tyInt Try.prog 127 = none := by kernel_rfl
@[go_sem] theorem str127 : tyStr Try.prog 127 = false := by kernel_rfl
@[go_sem] theorem bool127 : tyBool Try.prog 127 = false := by kernel_rfl
@[go_sem] theorem z127 : tyZ Try.prog 127 = some ((.junk) :: []) := by kernel_rfl
@[go_sem] theorem und128 : (Try.prog.underlying 128).isSome = true := by kernel_rfl
@[go_sem] theorem as128 : tyAS Try.prog 128 = some (false, 1) := by kernel_rfl
@[go_sem] theorem sl128 : tySl Try.prog 128 = none := by kernel_rfl
@[go_sem] theorem int128 : tyInt Try.prog 128 = none := by kernel_rfl
@[go_sem] theorem str128 : tyStr Try.prog 128 = false := by kernel_rfl
@[go_sem] theorem bool128 : tyBool Try.prog 128 = false := by kernel_rfl
@[go_sem] theorem z128 : tyZ Try.prog 128 = some ((.junk) :: []) := by kernel_rfl
@[go_sem] theorem und129 : (Try.prog.underlying 129).isSome = true := by kernel_rfl
@[go_sem] theorem as129 : tyAS Try.prog 129 = some (false, 1) := by kernel_rfl
@[go_sem] theorem sl129 : tySl Try.prog 129 = none := by kernel_rfl
@[go_sem] theorem int129 : tyInt Try.prog 129 = none := by kernel_rfl
@[go_sem] theorem str129 : tyStr Try.prog 129 = false := by kernel_rfl
@[go_sem] theorem bool129 : tyBool Try.prog 129 = false := by kernel_rfl
@[go_sem] theorem und130 : (Try.prog.underlying 130).isSome = true := by kernel_rfl
@[go_sem] theorem as130 : tyAS Try.prog 130 = some (false, 1) := by kernel_rfl
@[go_sem] theorem sl130 : tySl Try.prog 130 = none := by kernel_rfl
@[go_sem] theorem int130 : tyInt Try.prog 130 = none := by kernel_rfl
@[go_sem] theorem str130 : tyStr Try.prog 130 = false := by kernel_rfl
@[go_sem] theorem bool130 : tyBool Try.prog 130 = false := by kernel_rfl
@[go_sem] theorem z130 : tyZ Try.prog 130 = some ((.junk) :: []) := by kernel_rfl
@[go_sem] theorem und131 : (Try.prog.underlying 131).isSome = true := by kernel_rfl
@[go_sem] theorem as131 : tyAS Try.prog 131 = some (false, 1) := by kernel_rfl
@[go_sem] theorem sl131 : tySl Try.prog 131 = none := by kernel_rfl
@[go_sem] theorem int131 : tyInt Try.prog 131 = none := by kernel_rfl
@[go_sem] theorem str131 : tyStr Try.prog 131 = false := by kernel_rfl
@[go_sem] theorem bool131 : tyBool Try.prog 131 = false := by kernel_rfl
@[go_sem] theorem z131 : tyZ Try.prog 131 = some ((.junk) :: []) := by kernel_rfl
@[go_sem] theorem und132 : (Try.prog.underlying 132).isSome = true := by kernel_rfl
@[go_sem] theorem as132 : tyAS Try.prog 132 = some (false, 1) := by kernel_rfl
@[go_sem] theorem sl132 : tySl Try.prog 132 = none := by kernel_rfl
@[go_sem] theorem int132 : tyInt Try.prog 132 = none := by kernel_rfl
@[go_sem] theorem str132 : tyStr Try.prog 132 = false := by kernel_rfl
@[go_sem] theorem bool132 : tyBool Try.prog 132 = false := by kernel_rfl
@[go_sem] theorem z132 : tyZ Try.prog 132 = some ((.junk) :: []) := by kernel_rfl
@[go_sem] theorem und133 : (Try.prog.underlying 133).isSome = true := by kernel_rfl
@[go_sem] theorem as133 : tyAS Try.prog 133 = some (false, 1) := by kernel_rfl
@[go_sem] theorem sl133 : tySl Try.prog 133 = none := by kernel_rfl
@[go_sem] theorem int133 : tyInt Try.prog 133 = none := by kernel_rfl
@[go_sem] theorem str133 : tyStr Try.prog 133 = false := by kernel_rfl
@[go_sem] theorem bool133 : tyBool Try.prog 133 = false := by kernel_rfl
@[go_sem] theorem z133 : tyZ Try.prog 133 = some ((.junk) :: []) := by kernel_rfl
@[go_sem] theorem und134 : (Try.prog.underlying 134).isSome = true := by kernel_rfl
@[go_sem] theorem as134 : tyAS Try.prog 134 = some (false, 1) := by kernel_rfl
@[go_sem] theorem sl134 : tySl Try.prog 134 = none := by kernel_rfl
@[go_sem] theorem int134 : tyInt Try.prog 134 = none := by kernel_rfl
@[go_sem] theorem str134 : tyStr Try.prog 134 = false := by kernel_rfl
@[go_sem] theorem bool134 : tyBool Try.prog 134 = false := by kernel_rfl
@[go_sem] theorem z134 : tyZ Try.prog 134 = some ((.junk) :: []) := by kernel_rfl
@[go_sem] theorem und135 : (Try.prog.underlying 135).isSome = true := by kernel_rfl
@[go_sem] theorem as135 : tyAS Try.prog 135 = some (false, 1) := by kernel_rfl
@[go_sem] theorem sl135 : tySl Try.prog 135 = none := by kernel_rfl
@[go_sem] theorem int135 : tyInt Try.prog 135 = none := by kernel_rfl
@[go_sem] theorem str135 : tyStr Try.prog 135 = false := by kernel_rfl
@[go_sem] theorem bool135 : tyBool Try.prog 135 = false := by kernel_rfl
@[go_sem] theorem z135 : tyZ Try.prog 135 = some ((.junk) :: []) := by kernel_rfl
@[go_sem] theorem und136 : (Try.prog.underlying 136).isSome = true := by kernel_rfl
@[go_sem] theorem as136 : tyAS Try.prog 136 = some (false, 1) := by kernel_rfl
@[go_sem] theorem sl136 : tySl Try.prog 136 = none := by kernel_rfl
@[go_sem] theorem int136 : tyInt Try.prog 136 = none := by kernel_rfl
@[go_sem] theorem str136 : tyStr Try.prog 136 = false := by kernel_rfl
@[go_sem] theorem bool136 : tyBool Try.prog 136 = false := by kernel_rfl
@[go_sem] theorem z136 : tyZ Try.prog 136 = some ((.junk) :: []) := by kernel_rfl
@[go_sem] theorem und137 : (Try.prog.underlying 137).isSome = true := by kernel_rfl
@[go_sem] theorem as137 : tyAS Try.prog 137 = some (false, 1) := by kernel_rfl
@[go_sem] theorem sl137 : tySl Try.prog 137 = some (24, 1, 24) := by kernel_rfl
@[go_sem] theorem int137 : tyInt Try.prog 137 = none := by kernel_rfl
@[go_sem] theorem str137 : tyStr Try.prog 137 = false := by kernel_rfl
@[go_sem] theorem bool137 : tyBool Try.prog 137 = false := by kernel_rfl
@[go_sem] theorem z137 : tyZ Try.prog 137 = some ((.sl 0 true []) :: []) := by kernel_rfl
@[go_sem] theorem und138 : (Try.prog.underlying 138).isSome = true := by kernel_rfl
@[go_sem] theorem as138 : tyAS Try.prog 138 = some (false, 1) := by kernel_rfl
@[go_sem] theorem sl138 : tySl Try.prog 138 = none := by kernel_rfl
@[go_sem] theorem int138 : tyInt Try.prog 138 = none := by kernel_rfl
@[go_sem] theorem str138 : tyStr Try.prog 138 = false := by kernel_rfl
@[go_sem] theorem bool138 : tyBool Try.prog 138 = false := by kernel_rfl
@[go_sem] theorem z138 : tyZ Try.prog 138 = some ((.junk) :: []) := by kernel_rfl
@[go_sem] theorem und139 : (Try.prog.underlying 139).isSome = true := by kernel_rfl
@[go_sem] theorem as139 : tyAS Try.prog 139 = some (false, 1) := by kernel_rfl
@[go_sem] theorem sl139 : tySl Try.prog 139 = none := by kernel_rfl
@[go_sem] theorem int139 : tyInt Try.prog 139 = none := by kernel_rfl
@[go_sem] theorem str139 : tyStr Try.prog 139 = false := by kernel_rfl
@[go_sem] theorem bool139 : tyBool Try.prog 139 = false := by kernel_rfl
@[go_sem] theorem z139 : tyZ Try.prog 139 = some ((.junk) :: []) := by kernel_rfl
@[go_sem] theorem und140 : (Try.prog.underlying 140).isSome = true := by kernel_rfl
@[go_sem] theorem as140 : tyAS Try.prog 140 = some (false, 1) := by kernel_rfl
@[go_sem] theorem sl140 : tySl Try.prog 140 = none := by kernel_rfl
@[go_sem] theorem int140 : tyInt Try.prog 140 = none := by kernel_rfl
@[go_sem] theorem str140 : tyStr Try.prog 140 = false := by kernel_rfl
@[go_sem] theorem bool140 : tyBool Try.prog 140 = false := by kernel_rfl
@[go_sem] theorem z140 : tyZ Try.prog 140 = some ((.junk) :: []) := by kernel_rfl
@[go_sem] theorem und141 : (Try.prog.underlying 141).isSome = true := by kernel_rfl
@[go_sem] theorem as141 : tyAS Try.prog 141 = some (false, 1) := by kernel_rfl
@[go_sem] theorem sl141 : tySl Try.prog 141 = none := by kernel_rfl
@[go_sem] theorem int141 : tyInt Try.prog 141 = none := by kernel_rfl
@[go_sem] theorem str141 : tyStr Try.prog 141 = false := by kernel_rfl
@[go_sem] theorem bool141 : tyBool Try.prog 141 = false := by kernel_rfl
@[go_sem] theorem z141 : tyZ Try.prog 141 = some ((.junk) :: []) := by kernel_rfl
@[go_sem] theorem und142 : (Try.prog.underlying 142).isSome = true := by kernel_rfl
@[go_sem] theorem as142 : tyAS Try.prog 142 = some (false, 1) := by kernel_rfl
@[go_sem] theorem sl142 : tySl Try.prog 142 = none := by kernel_rfl
@[go_sem] theorem int142 : tyInt Try.prog 142 = none := by kernel_rfl
@[go_sem] theorem str142 : tyStr Try.prog 142 = false := by kernel_rfl
@[go_sem] theorem bool142 : tyBool Try.prog 142 = false := by kernel_rfl
@[go_sem] theorem z142 : tyZ Try.prog 142 = some ((.junk) :: []) := by kernel_rfl
@[go_sem] theorem und143 : (Try.prog.underlying 143).isSome = true := by kernel_rfl
@[go_sem] theorem as143 : tyAS Try.prog 143 = some (false, 1) := by kernel_rfl
@[go_sem] theorem sl143 : tySl Try.prog 143 = some (146, 3, 3) := by kernel_rfl
@[go_sem] theorem int143 : tyInt Try.prog 143 = none := by kernel_rfl
@[go_sem] theorem str143 : tyStr Try.prog 143 = false := by kernel_rfl
@[go_sem] theorem bool143 : tyBool Try.prog 143 = false := by kernel_rfl
@[go_sem] theorem z143 : tyZ Try.prog 143 = some ((.sl 0 true []) :: []) := by kernel_rfl
@[go_sem] theorem und144 : (Try.prog.underlying 144).isSome = true := by kernel_rfl
@[go_sem] theorem as144 : tyAS Try.prog 144 = some (false, 1) := by kernel_rfl
@[go_sem] theorem sl144 : tySl Try.prog 144 = none := by kernel_rfl
@[go_sem] theorem int144 : tyInt Try.prog 144 = none := by kernel_rfl
@[go_sem] theorem str144 : tyStr Try.prog 144 = false := by kernel_rfl
@[go_sem] theorem bool144 : tyBool Try.prog 144 = false := by kernel_rfl
@[go_sem] theorem z144 : tyZ Try.prog 144 = some ((.junk) :: []) := by kernel_rfl
@[go_sem] theorem und145 : (Try.prog.underlying 145).isSome = true := by kernel_rfl
@[go_sem] theorem as145 : tyAS Try.prog 145 = some (true, 3) := by kernel_rfl
@[go_sem] theorem sl145 : tySl Try.prog 145 = none := by kernel_rfl
@[go_sem] theorem int145 : tyInt Try.prog 145 = none := by kernel_rfl
@[go_sem] theorem str145 : tyStr Try.prog 145 = false := by kernel_rfl
@[go_sem] theorem bool145 : tyBool Try.prog 145 = false := by kernel_rfl
@[go_sem] theorem z145 : tyZ Try.prog 145 = some ((.bool false) :: (.bool false) :: (.bool false) :: []) := by kernel_rfl
@[go_sem] theorem fs145 : tyFs Try.prog 145 = some ((0, 1) :: (1, 1) :: (2, 1) :: []) := by kernel_rfl
@[go_sem] theorem eq145 : tyEq Try.prog 145 = some ((.bool) :: (.bool) :: (.bool) :: []) := by kernel_rfl
@[go_sem] theorem fld145_0 : tyFld Try.prog 145 0 = some (0, 1, false) := by kernel_rfl
@[go_sem] theorem fld145_1 : tyFld Try.prog 145 1 = some (1, 1, false) := by kernel_rfl
@[go_sem] theorem fld145_2 : tyFld Try.prog 145 2 = some (2, 1, false) := by kernel_rfl
@[go_sem] theorem und146 : (Try.prog.underlying 146).isSome = true := by kernel_rfl
@[go_sem] theorem as146 : tyAS Try.prog 146 = some (true, 3) := by kernel_rfl
@[go_sem] theorem sl146 : tySl Try.prog 146 = none := by kernel_rfl
@[go_sem] theorem int146 : tyInt Try.prog 146 = none := by kernel_rfl
@[go_sem] theorem str146 : tyStr Try.prog 146 = false := by kernel_rfl
@[go_sem] theorem bool146 : tyBool Try.prog 146 = false := by kernel_rfl
@[go_sem] theorem z146 : tyZ Try.prog 146 = some ((.bool false) :: (.bool false) :: (.bool false) :: []) := by kernel_rfl
@[go_sem] theorem fs146 : tyFs Try.prog 146 = some ((0, 1) :: (1, 1) :: (2, 1) :: []) := by kernel_rfl
@[go_sem] theorem eq146 : tyEq Try.prog 146 = some ((.bool) :: (.bool) :: (.bool) :: []) := by kernel_rfl
@[go_sem] theorem fld146_0 : tyFld Try.prog 146 0 = some (0, 1, false) := by kernel_rfl
@[go_sem] theorem fld146_1 : tyFld Try.prog 146 1 = some (1, 1, false) := by kernel_rfl
@[go_sem] theorem fld146_2 : tyFld Try.prog 146 2 = some (2, 1, false) := by kernel_rfl
@[go_sem] theorem und147 : (Try.prog.underlying 147).isSome = true := by kernel_rfl
@[go_sem] theorem as147 : tyAS Try.prog 147 = some (false, 1) := by kernel_rfl
@[go_sem] theorem sl147 : tySl Try.prog 147 = some (149, 3, 3) := by kernel_rfl
@[go_sem] theorem int147 : tyInt Try.prog 147 = none := by kernel_rfl
@[go_sem] theorem str147 : tyStr Try.prog 147 = false := by kernel_rfl
@[go_sem] theorem bool147 : tyBool Try.prog 147 = false := by kernel_rfl
@[go_sem] theorem z147 : tyZ Try.prog 147 = some ((.sl 0 true []) :: []) := by kernel_rfl
@[go_sem] theorem und148 : (Try.prog.underlying 148).isSome = true := by kernel_rfl
@[go_sem] theorem as148 : tyAS Try.prog 148 = some (true, 3) := by kernel_rfl
@[go_sem] theorem sl148 : tySl Try.prog 148 = none := by kernel_rfl
@[go_sem] theorem int148 : tyInt Try.prog 148 = none := by kernel_rfl
@[go_sem] theorem str148 : tyStr Try.prog 148 = false := by kernel_rfl
@[go_sem] theorem bool148 : tyBool Try.prog 148 = false := by kernel_rfl
@[go_sem] theorem z148 : tyZ Try.prog 148 = some ((.bool false) :: (.bool false) :: (.bool false) :: []) := by kernel_rfl
@[go_sem] theorem fs148 : tyFs Try.prog 148 = some ((0, 1) :: (1, 1) :: (2, 1) :: []) := by kernel_rfl
@[go_sem] theorem eq148 : tyEq Try.prog 148 = some ((.bool) :: (.bool) :: (.bool) :: []) := by kernel_rfl
@[go_sem] theorem fld148_0 : tyFld Try.prog 148 0 = some (0, 1, false) := by kernel_rfl
@[go_sem] theorem fld148_1 : tyFld Try.prog 148 1 = some (1, 1, false) := by kernel_rfl
@[go_sem] theorem fld148_2 : tyFld Try.prog 148 2 = some (2, 1, false) := by kernel_rfl
@[go_sem] theorem und149 : (Try.prog.underlying 149).isSome = true := by kernel_rfl
@[go_sem] theorem as149 : tyAS Try.prog 149 = some (true, 3) := by kernel_rfl
@[go_sem] theorem sl149 : tySl Try.prog 149 = none := by kernel_rfl
@[go_sem] theorem int149 : tyInt Try.prog 149 = none := by kernel_rfl
@[go_sem] theorem str149 : tyStr Try.prog 149 = false := by kernel_rfl
@[go_sem] theorem bool149 : tyBool Try.prog 149 = false := by kernel_rfl
@[go_sem] theorem z149 : tyZ Try.prog 149 = some ((.bool false) :: (.bool false) :: (.bool false) :: []) := by kernel_rfl
@[go_sem] theorem fs149 : tyFs Try.prog 149 = some ((0, 1) :: (1, 1) :: (2, 1) :: []) := by kernel_rfl
@[go_sem] theorem eq149 : tyEq Try.prog 149 = some ((.bool) :: (.bool) :: (.bool) :: []) := by kernel_rfl
@[go_sem] theorem fld149_0 : tyFld Try.prog 149 0 = some (0, 1, false) := by kernel_rfl
@[go_sem] theorem fld149_1 : tyFld Try.prog 149 1 = some (1, 1, false) := by kernel_rfl
@[go_sem] theorem fld149_2 : tyFld Try.prog 149 2 = some (2, 1, false) := by kernel_rfl
@[go_sem] theorem und150 : (Try.prog.underlying 150).isSome = true := by kernel_rfl
@[go_sem] theorem as150 : tyAS Try.prog 150 = some (false, 1) := by kernel_rfl
@[go_sem] theorem sl150 : tySl Try.prog 150 = none := by kernel_rfl
@[go_sem] theorem int150 : tyInt Try.prog 150 = none := by kernel_rfl
@[go_sem] theorem str150 : tyStr Try.prog 150 = false := by kernel_rfl
@[go_sem] theorem bool150 : tyBool Try.prog 150 = false := by kernel_rfl
@[go_sem] theorem z150 : tyZ Try.prog 150 = some ((.junk) :: []) := by kernel_rfl
@[go_sem] theorem und151 : (Try.prog.underlying 151).isSome = true := by kernel_rfl
@[go_sem] theorem as151 : tyAS Try.prog 151 = some (false, 1) := by kernel_rfl
@[go_sem] theorem sl151 : tySl Try.prog 151 = none := by kernel_rfl
@[go_sem] theorem int151 : tyInt Try.prog 151 = none := by kernel_rfl
@[go_sem] theorem str151 : tyStr Try.prog 151 = false := by kernel_rfl
@[go_sem] theorem bool151 : tyBool Try.prog 151 = false := by kernel_rfl
@[go_sem] theorem z151 : tyZ Try.prog 151 = some ((.junk) :: []) := by kernel_rfl
@[go_sem] theorem und152 : (Try.prog.underlying 152).isSome = true := by kernel_rfl
@[go_sem] theorem as152 : tyAS Try.prog 152 = some (false, 1) := by kernel_rfl
@[go_sem] theorem sl152 : tySl Try.prog 152 = none := by kernel_rfl
@[go_sem] theorem int152 : tyInt Try.prog 152 = none := by kernel_rfl
@[go_sem] theorem str152 : tyStr Try.prog 152 = false := by kernel_rfl
@[go_sem] theorem bool152 : tyBool Try.prog 152 = false := by kernel_rfl
@[go_sem] theorem z152 : tyZ Try.prog 152 = some ((.junk) :: []) := by kernel_rfl
@[go_sem] theorem und153 : (Try.prog.underlying 153).isSome = true := by kernel_rfl
@[go_sem] theorem as153 : tyAS Try.prog 153 = some (false, 1) := by kernel_rfl
@[go_sem] theorem sl153 : tySl Try.prog 153 = none := by kernel_rfl
@[go_sem] theorem int153 : tyInt Try.prog 153 = none := by kernel_rfl
@[go_sem] theorem str153 : tyStr Try.prog 153 = false := by kernel_rfl
@[go_sem] theorem bool153 : tyBool Try.prog 153 = false := by kernel_rfl
@[go_sem] theorem z153 : tyZ Try.prog 153 = some ((.junk) :: []) := by kernel_rfl
@[go_sem] theorem und154 : (Try.prog.underlying 154).isSome = true := by kernel_rfl
@[go_sem] theorem as154 : tyAS Try.prog 154 = some (false, 1) := by kernel_rfl
@[go_sem] theorem sl154 : tySl Try.prog 154 = none := by kernel_rfl
@[go_sem] theorem int154 : tyInt Try.prog 154 = none := by kernel_rfl
@[go_sem] theorem str154 : tyStr Try.prog 154 = false := by kernel_rfl
@[go_sem] theorem bool154 : tyBool Try.prog 154 = false := by kernel_rfl
@[go_sem] theorem z154 : tyZ Try.prog 154 = some ((.junk) :: []) := by kernel_rfl
@[go_sem] theorem und155 : (Try.prog.underlying 155).isSome = true := by kernel_rfl
@[go_sem] theorem as155 : tyAS Try.prog 155 = some (false, 1) := by kernel_rfl
@[go_sem] theorem sl155 : tySl Try.prog 155 = none := by kernel_rfl
@[go_sem] theorem int155 : tyInt Try.prog 155 = none := by kernel_rfl
@[go_sem] theorem str155 : tyStr Try.prog 155 = false := by kernel_rfl
@[go_sem] theorem bool155 : tyBool Try.prog 155 = false := by kernel_rfl
@[go_sem] theorem z155 : tyZ Try.prog 155 = some ((.junk) :: []) := by kernel_rfl
@[go_sem] theorem und156 : (Try.prog.underlying 156).isSome = true := by kernel_rfl
@[go_sem] theorem as156 : tyAS Try.prog 156 = some (true, 2) := by kernel_rfl
@[go_sem] theorem sl156 : tySl Try.prog 156 = none := by kernel_rfl
@[go_sem] theorem int156 : tyInt Try.prog 156 = none := by kernel_rfl
@[go_sem] theorem str156 : tyStr Try.prog 156 = false := by kernel_rfl
@[go_sem] theorem bool156 : tyBool Try.prog 156 = false := by kernel_rfl
@[go_sem] theorem z156 : tyZ Try.prog 156 = some ((.sl 0 true []) :: (.int .i64 (0)) :: []) := by kernel_rfl
@[go_sem] theorem fs156 : tyFs Try.prog 156 = some ((0, 1) :: (1, 1) :: []) := by kernel_rfl
@[go_sem] theorem fld156_0 : tyFld Try.prog 156 0 = some (0, 1, false) := by kernel_rfl
@[go_sem] theorem fld156_1 : tyFld Try.prog 156 1 = some (1, 1, false) := by kernel_rfl
@[go_sem] theorem und157 : (Try.prog.underlying 157).isSome = true := by kernel_rfl
@[go_sem] theorem as157 : tyAS Try.prog 157 = some (true, 2) := by kernel_rfl
@[go_sem] theorem sl157 : tySl Try.prog 157 = none := by kernel_rfl
@[go_sem] theorem int157 : tyInt Try.prog 157 = none := by kernel_rfl
@[go_sem] theorem str157 : tyStr Try.prog 157 = false := by kernel_rfl
@[go_sem] theorem bool157 : tyBool Try.prog 157 = false := by kernel_rfl
@[go_sem] theorem z157 : tyZ Try.prog 157 = some ((.sl 0 true []) :: (.int .i64 (0)) :: []) := by kernel_rfl
@[go_sem] theorem fs157 : tyFs Try.prog 157 = some ((0, 1) :: (1, 1) :: []) := by kernel_rfl
@[go_sem] theorem fld157_0 : tyFld Try.prog 157 0 = some (0, 1, false) := by kernel_rfl
@[go_sem] theorem fld157_1 : tyFld Try.prog 157 1 = some (1, 1, false) := by kernel_rfl
@[go_sem] theorem und158 : (Try.prog.underlying 158).isSome = true := by kernel_rfl
@[go_sem] theorem as158 : tyAS Try.prog 158 = some (false, 1) := by kernel_rfl
@[go_sem] theorem sl158 : tySl Try.prog 158 = none := by kernel_rfl
@[go_sem] theorem int158 : tyInt Try.prog 158 = some (.u64) := by kernel_rfl
@[go_sem] theorem str158 : tyStr Try.prog 158 = false := by kernel_rfl
@[go_sem] theorem bool158 : tyBool Try.prog 158 = false := by kernel_rfl
@[go_sem] theorem z158 : tyZ Try.prog 158 = some ((.int .u64 (0)) :: []) := by kernel_rfl
@[go_sem] theorem und159 : (Try.prog.underlying 159).isSome = true := by kernel_rfl
@[go_sem] theorem as159 : tyAS Try.prog 159 = some (false, 1) := by kernel_rfl
@[go_sem] theorem sl159 : tySl Try.prog 159 = none := by kernel_rfl
@[go_sem] theorem int159 : tyInt Try.prog 159 = none := by kernel_rfl
@[go_sem] theorem str159 : tyStr Try.prog 159 = false := by kernel_rfl
@[go_sem] theorem bool159 : tyBool Try.prog 159 = false := by kernel_rfl
@[go_sem] theorem z159 : tyZ Try.prog 159 = some ((.junk) :: []) := by kernel_rfl
@[go_sem] theorem und160 : (Try.prog.underlying 160).isSome = true := by kernel_rfl
@[go_sem] theorem as160 : tyAS Try.prog 160 = some (false, 1) := by kernel_rfl
@[go_sem] theorem sl160 : tySl Try.prog 160 = none := by kernel_rfl
@[go_sem] theorem int160 : tyInt Try.prog 160 = none := by kernel_rfl
@[go_sem] theorem str160 : tyStr Try.prog 160 = false := by kernel_rfl
@[go_sem] theorem bool160 : tyBool Try.prog 160 = false := by kernel_rfl
@[go_sem] theorem z160 : tyZ Try.prog 160 = some ((.junk) :: []) := by kernel_rfl
@[go_sem] theorem und161 : (Try.prog.underlying 161).isSome = true := by kernel_rfl
@[go_sem] theorem as161 : tyAS Try.prog 161 = some (false, 1) := by kernel_rfl
@[go_sem] theorem sl161 : tySl Try.prog 161 = none := by kernel_rfl
@[go_sem] theorem int161 : tyInt Try.prog 161 = none := by kernel_rfl
@[go_sem] theorem str161 : tyStr Try.prog 161 = false := by kernel_rfl
@[go_sem] theorem bool161 : tyBool Try.prog 161 = false := by kernel_rfl
@[go_sem] theorem z161 : tyZ Try.prog 161 = some ((.junk) :: []) := by kernel_rfl
@[go_sem] theorem und162 : (Try.prog.underlying 162).isSome = true := by kernel_rfl
@[go_sem] theorem as162 : tyAS Try.prog 162 = some (false, 1) := by kernel_rfl
@[go_sem] theorem sl162 : tySl Try.prog 162 = none := by kernel_rfl
@[go_sem] theorem int162 : tyInt Try.prog 162 = none := by kernel_rfl
@[go_sem] theorem str162 : tyStr Try.prog 162 = false := by kernel_rfl
@[go_sem] theorem bool162 : tyBool Try.prog 162 = false := by kernel_rfl
@[go_sem] theorem z162 : tyZ Try.prog 162 = some ((.junk) :: []) := by kernel_rfl
@[go_sem] theorem und163 : (Try.prog.underlying 163).isSome = true := by kernel_rfl
@[go_sem] theorem as163 : tyAS Try.prog 163 = some (false, 1) := by kernel_rfl
@[go_sem] theorem sl163 : tySl Try.prog 163 = none := by kernel_rfl
@[go_sem] theorem int163 : tyInt Try.prog 163 = none := by kernel_rfl
@[go_sem] theorem str163 : tyStr Try.prog 163 = false := by kernel_rfl
@[go_sem] theorem bool163 : tyBool Try.prog 163 = false := by kernel_rfl
@[go_sem] theorem z163 : tyZ Try.prog 163 = some ((.junk) :: []) := by kernel_rfl
@[go_sem] theorem und164 : (Try.prog.underlying 164).isSome = true := by kernel_rfl
@[go_sem] theorem as164 : tyAS Try.prog 164 = some (false, 1) := by kernel_rfl
@[go_sem] theorem sl164 : tySl Try.prog 164 = none := by kernel_rfl
@[go_sem] theorem int164 : tyInt Try.prog 164 = none := by kernel_rfl
@[go_sem] theorem str164 : tyStr Try.prog 164 = false := by kernel_rfl
@[go_sem] theorem bool164 : tyBool Try.prog 164 = false := by kernel_rfl
@[go_sem] theorem z164 : tyZ Try.prog 164 = some ((.junk) :: []) := by kernel_rfl
@[go_sem] theorem und165 : (Try.prog.underlying 165).isSome = true := by kernel_rfl
@[go_sem] theorem as165 : tyAS Try.prog 165 = some (false, 1) := by kernel_rfl
@[go_sem] theorem sl165 : tySl Try.prog 165 = none := by kernel_rfl
@[go_sem] theorem int165 : tyInt Try.prog 165 = none := by kernel_rfl
@[go_sem] theorem str165 : tyStr Try.prog 165 = false := by kernel_rfl
@[go_sem] theorem bool165 : tyBool Try.prog 165 = false := by kernel_rfl
@[go_sem] theorem z165 : tyZ Try.prog 165 = some ((.junk) :: []) := by kernel_rfl
@[go_sem] theorem und166 : (Try.prog.underlying 166).isSome = true := by kernel_rfl
@[go_sem] theorem as166 : tyAS Try.prog 166 = some (false, 1) := by kernel_rfl
@[go_sem] theorem sl166 : tySl Try.prog 166 = none := by kernel_rfl
@[go_sem] theorem int166 : tyInt Try.prog 166 = none := by kernel_rfl
@[go_sem] theorem str166 : tyStr Try.prog 166 = false := by kernel_rfl
@[go_sem] theorem bool166 : tyBool Try.prog 166 = false := by kernel_rfl
@[go_sem] theorem z166 : tyZ Try.prog 166 = some ((.junk) :: []) := by kernel_rfl
@[go_sem] theorem und167 : (Try.prog.underlying 167).isSome = true := by kernel_rfl
@[go_sem] theorem as167 : tyAS Try.prog 167 = some (false, 1) := by kernel_rfl
@[go_sem] theorem sl167 : tySl Try.prog 167 = none := by kernel_rfl
@[go_sem] theorem int167 : tyInt Try.prog 167 = none := by kernel_rfl
@[go_sem] theorem str167 : tyStr Try.prog 167 = false := by kernel_rfl
@[go_sem] theorem bool167 : tyBool Try.prog 167 = false := by kernel_rfl
@[go_sem] theorem z167 : tyZ Try.prog 167 = some ((.junk) :: []) := by kernel_rfl
@[go_sem] theorem und168 : (Try.prog.underlying 168).isSome = true := by kernel_rfl
@[go_sem] theorem as168 : tyAS Try.prog 168 = some (false, 1) := by kernel_rfl
@[go_sem] theorem sl168 : tySl Try.prog 168 = none := by kernel_rfl
@[go_sem] theorem int168 : tyInt Try.prog 168 = none := by kernel_rfl
@[go_sem] theorem str168 : tyStr Try.prog 168 = false := by kernel_rfl
@[go_sem] theorem bool168 : tyBool Try.prog 168 = false := by kernel_rfl
@[go_sem] theorem z168 : tyZ Try.prog 168 = some ((.junk) :: []) := by kernel_rfl
@[go_sem] theorem und169 : (Try.prog.underlying 169).isSome = true := by kernel_rfl
@[go_sem] theorem as169 : tyAS Try.prog 169 = some (false, 1) := by kernel_rfl
@[go_sem] theorem sl169 : tySl Try.prog 169 = none := by kernel_rfl
@[go_sem] theorem int169 : tyInt Try.prog 169 = none := by kernel_rfl
@[go_sem] theorem str169 : tyStr Try.prog 169 = false := by kernel_rfl
@[go_sem] theorem bool169 : tyBool Try.prog 169 = false := by kernel_rfl
@[go_sem] theorem z169 : tyZ Try.prog 169 = some ((.junk) :: []) := by kernel_rfl
@[go_sem] theorem und170 : (Try.prog.underlying 170).isSome = true := by kernel_rfl
@[go_sem] theorem as170 : tyAS Try.prog 170 = some (false, 1) := by kernel_rfl
@[go_sem] theorem sl170 : tySl Try.prog 170 = none := by kernel_rfl
@[go_sem] theorem int170 : tyInt Try.prog 170 = none := by kernel_rfl
@[go_sem] theorem str170 : tyStr Try.prog 170 = false := by kernel_rfl
@[go_sem] theorem bool170 : tyBool Try.prog 170 = false := by kernel_rfl
@[go_sem] theorem z170 : tyZ Try.prog 170 = some ((.junk) :: []) := by kernel_rfl
@[go_sem] theorem und171 : (Try.prog.underlying 171).isSome = true := by kernel_rfl
@[go_sem] theorem as171 : tyAS Try.prog 171 = some (false, 1) := by kernel_rfl
@[go_sem] theorem sl171 : tySl Try.prog 171 = none := by kernel_rfl
@[go_sem] theorem int171 : tyInt Try.prog 171 = none := by kernel_rfl
@[go_sem] theorem str171 : tyStr Try.prog 171 = false := by kernel_rfl
@[go_sem] theorem bool171 : tyBool Try.prog 171 = false := by kernel_rfl
@[go_sem] theorem z171 : tyZ Try.prog 171 = some ((.junk) :: []) := by kernel_rfl
@[go_sem] theorem und172 : (Try.prog.underlying 172).isSome = true := by kernel_rfl
@[go_sem] theorem as172 : tyAS Try.prog 172 = some (false, 1) := by kernel_rfl
@[go_sem] theorem sl172 : tySl Try.prog 172 = none := by kernel_rfl
@[go_sem] theorem int172 : tyInt Try.prog 172 = none := by kernel_rfl
@[go_sem] theorem str172 : tyStr Try.prog 172 = false := by kernel_rfl
@[go_sem] theorem bool172 : tyBool Try.prog 172 = false := by kernel_rfl
@[go_sem] theorem z172 : tyZ Try.prog 172 = some ((.junk) :: []) := by kernel_rfl
@[go_sem] theorem und173 : (Try.prog.underlying 173).isSome = true := by kernel_rfl
@[go_sem] theorem as173 : tyAS Try.prog 173 = some (false, 1) := by kernel_rfl
@[go_sem] theorem sl173 : tySl Try.prog 173 = none := by kernel_rfl
@[go_sem] theorem int173 : tyInt Try.prog 173 = none := by kernel_rfl
@[go_sem] theorem str173 : tyStr Try.prog 173 = false := by kernel_rfl
@[go_sem] theorem bool173 : tyBool Try.prog 173 = false := by kernel_rfl
@[go_sem] theorem z173 : tyZ Try.prog 173 = some ((.junk) :: []) := by kernel_rfl
@[go_sem] theorem und174 : (Try.prog.underlying 174).isSome = true := by kernel_rfl
@[go_sem] theorem as174 : tyAS Try.prog 174 = some (false, 1) := by kernel_rfl
@[go_sem] theorem sl174 : tySl Try.prog 174 = none := by kernel_rfl
@[go_sem] theorem int174 : tyInt Try.prog 174 = none := by kernel_rfl
@[go_sem] theorem str174 : tyStr Try.prog 174 = false := by kernel_rfl
@[go_sem] theorem bool174 : tyBool Try.prog 174 = false := by kernel_rfl
@[go_sem] theorem z174 : tyZ Try.prog 174 = some ((.junk) :: []) := by kernel_rfl
@[go_sem] theorem und175 : (Try.prog.underlying 175).isSome = true := by kernel_rfl
@[go_sem] theorem as175 : tyAS Try.prog 175 = some (false, 1) := by kernel_rfl
@[go_sem] theorem sl175 : tySl Try.prog 175 = none := by kernel_rfl
@[go_sem] theorem int175 : tyInt Try.prog 175 = none := by kernel_rfl
@[go_sem] theorem str175 : tyStr Try.prog 175 = false := by kernel_rfl
@[go_sem] theorem bool175 : tyBool Try.prog 175 = false := by kernel_rfl
@[go_sem] theorem z175 : tyZ Try.prog 175 = some ((.junk) :: []) := by kernel_rfl
@[go_sem] theorem und176 : (Try.prog.underlying 176).isSome = true := by kernel_rfl
@[go_sem] theorem as176 : tyAS Try.prog 176 = some (false, 1) := by kernel_rfl
@[go_sem] theorem sl176 : tySl Try.prog 176 = none := by kernel_rfl
@[go_sem] theorem int176 : tyInt Try.prog 176 = none := by kernel_rfl
@[go_sem] theorem str176 : tyStr Try.prog 176 = false := by kernel_rfl
@[go_sem] theorem bool176 : tyBool Try.prog 176 = false := by kernel_rfl
@[go_sem] theorem z176 : tyZ Try.prog 176 = some ((.junk) :: []) := by kernel_rfl
@[go_sem] theorem und177 : (Try.prog.underlying 177).isSome = true := by kernel_rfl
@[go_sem] theorem as177 : tyAS Try.prog 177 = some (false, 1) := by kernel_rfl
@[go_sem] theorem sl177 : tySl Try.prog 177 = none := by kernel_rfl
@[go_sem] theorem int177 : tyInt Try.prog 177 = none := by kernel_rfl
@[go_sem] theorem str177 : tyStr Try.prog 177 = false := by kernel_rfl
@[go_sem] theorem bool177 : tyBool Try.prog 177 = false := by kernel_rfl
@[go_sem] theorem z177 : tyZ Try.prog 177 = some ((.junk) :: []) := by kernel_rfl
@[go_sem] theorem und178 : (Try.prog.underlying 178).isSome = true := by kernel_rfl
@[go_sem] theorem as178 : tyAS Try.prog 178 = some (false, 1) := by kernel_rfl
@[go_sem] theorem sl178 : tySl Try.prog 178 = none := by kernel_rfl
@[go_sem] theorem int178 : tyInt Try.prog 178 = none := by kernel_rfl
@[go_sem] theorem str178 : tyStr Try.prog 178 = false := by kernel_rfl
@[go_sem] theorem bool178 : tyBool Try.prog 178 = false := by kernel_rfl
@[go_sem] theorem z178 : tyZ Try.prog 178 = some ((.junk) :: []) := by kernel_rfl
@[go_sem] theorem und179 : (Try.prog.underlying 179).isSome = true := by kernel_rfl
@[go_sem] theorem as179 : tyAS Try.prog 179 = some (false, 1) := by kernel_rfl
@[go_sem] theorem sl179 : tySl Try.prog 179 = none := by kernel_rfl
@[go_sem] theorem int179 : tyInt Try.prog 179 = none := by kernel_rfl
@[go_sem] theorem str179 : tyStr Try.prog 179 = false := by kernel_rfl
@[go_sem] theorem bool179 : tyBool Try.prog 179 = false := by kernel_rfl
@[go_sem] theorem z179 : tyZ Try.prog 179 = some ((.junk) :: []) := by kernel_rfl
@[go_sem] theorem und180 : (Try.prog.underlying 180).isSome = true := by kernel_rfl
@[go_sem] theorem as180 : tyAS Try.prog 180 = some (false, 1) := by kernel_rfl
@[go_sem] theorem sl180 : tySl Try.prog 180 = some (9, 1, 16) := by kernel_rfl
@[go_sem] theorem int180 : tyInt Try.prog 180 = none := by kernel_rfl
@[go_sem] theorem str180 : tyStr Try.prog 180 = false := by kernel_rfl
@[go_sem] theorem bool180 : tyBool Try.prog 180 = false := by kernel_rfl
@[go_sem] theorem z180 : tyZ Try.prog 180 = some ((.sl 0 true []) :: []) := by kernel_rfl
@[go_sem] theorem und181 : (Try.prog.underlying 181).isSome = true := by kernel_rfl
@[go_sem] theorem as181 : tyAS Try.prog 181 = some (false, 1) := by kernel_rfl
@[go_sem] theorem sl181 : tySl Try.prog 181 = none := by kernel_rfl
@[go_sem] theorem int181 : tyInt Try.prog 181 = none := by kernel_rfl
@[go_sem] theorem str181 : tyStr Try.prog 181 = false := by kernel_rfl
@[go_sem] theorem bool181 : tyBool Try.prog 181 = false := by kernel_rfl
@[go_sem] theorem z181 : tyZ Try.prog 181 = some ((.junk) :: []) := by kernel_rfl
@[go_sem] theorem und182 : (Try.prog.underlying 182).isSome = true := by kernel_rfl
@[go_sem] theorem as182 : tyAS Try.prog 182 = some (false, 1) := by kernel_rfl
@[go_sem] theorem sl182 : tySl Try.prog 182 = none := by kernel_rfl
@[go_sem] theorem int182 : tyInt Try.prog 182 = none := by kernel_rfl
@[go_sem] theorem str182 : tyStr Try.prog 182 = false := by kernel_rfl
@[go_sem] theorem bool182 : tyBool Try.prog 182 = false := by kernel_rfl
@[go_sem] theorem z182 : tyZ Try.prog 182 = some ((.junk) :: []) := by kernel_rfl
@[go_sem] theorem und183 : (Try.prog.underlying 183).isSome = true := by kernel_rfl
@[go_sem] theorem as183 : tyAS Try.prog 183 = some (false, 1) := by kernel_rfl
@[go_sem] theorem sl183 : tySl Try.prog 183 = none := by kernel_rfl
@[go_sem] theorem int183 : tyInt Try.prog 183 = none := by kernel_rfl
@[go_sem] theorem str183 : tyStr Try.prog 183 = false := by kernel_rfl
@[go_sem] theorem bool183 : tyBool Try.prog 183 = false := by kernel_rfl
@[go_sem] theorem z183 : tyZ Try.prog 183 = some ((.junk) :: []) := by kernel_rfl
@[go_sem] theorem und184 : (Try.prog.underlying 184).isSome = true := by kernel_rfl
@[go_sem] theorem as184 : tyAS Try.prog 184 = some (false, 1) := by kernel_rfl
@[go_sem] theorem sl184 : tySl Try.prog 184 = none := by kernel_rfl
@[go_sem] theorem int184 : tyInt Try.prog 184 = none := by kernel_rfl
@[go_sem] theorem str184 : tyStr Try.prog 184 = false := by kernel_rfl
@[go_sem] theorem bool184 : tyBool Try.prog 184 = false := by kernel_rfl
@[go_sem] theorem z184 : tyZ Try.prog 184 = some ((.junk) :: []) := by kernel_rfl
@[go_sem] theorem und185 : (Try.prog.underlying 185).isSome = true := by kernel_rfl
@[go_sem] theorem as185 : tyAS Try.prog 185 = some (false, 1) := by kernel_rfl
@[go_sem] theorem sl185 : tySl Try.prog 185 = none := by kernel_rfl
@[go_sem] theorem int185 : tyInt Try.prog 185 = none := by kernel_rfl
@[go_sem] theorem str185 : tyStr Try.prog 185 = false := by kernel_rfl
@[go_sem] theorem bool185 : tyBool Try.prog 185 = false := by kernel_rfl
@[go_sem] theorem z185 : tyZ Try.prog 185 = some ((.junk) :: []) := by kernel_rfl
@[go_sem] theorem und186 : (Try.prog.underlying 186).isSome = true := by kernel_rfl
@[go_sem] theorem as186 : tyAS Try.prog 186 = some (false, 1) := by kernel_rfl
@[go_sem] theorem sl186 : tySl Try.prog 186 = none := by kernel_rfl
@[go_sem] theorem int186 : tyInt Try.prog 186 = none := by kernel_rfl
@[go_sem] theorem str186 : tyStr Try.prog 186 = false := by kernel_rfl
@[go_sem] theorem bool186 : tyBool Try.prog 186 = false := by kernel_rfl
@[go_sem] theorem z186 : tyZ Try.prog 186 = some ((.junk) :: []) := by kernel_rfl
@[go_sem] theorem und187 : (Try.prog.underlying 187).isSome = true := by kernel_rfl
@[go_sem] theorem as187 : tyAS Try.prog 187 = some (false, 1) := by kernel_rfl
@[go_sem] theorem sl187 : tySl Try.prog 187 = none := by kernel_rfl
@[go_sem] theorem int187 : tyInt Try.prog 187 = none := by kernel_rfl
@[go_sem] theorem str187 : tyStr Try.prog 187 = false := by kernel_rfl
@[go_sem] theorem bool187 : tyBool Try.prog 187 = false := by kernel_rfl
@[go_sem] theorem z187 : tyZ Try.prog 187 = some ((.junk) :: []) := by kernel_rfl
@[go_sem] theorem und188 : (Try.prog.underlying 188).isSome = true := by kernel_rfl
@[go_sem] theorem as188 : tyAS Try.prog 188 = some (false, 1) := by kernel_rfl
@[go_sem] theorem sl188 : tySl Try.prog 188 = none := by kernel_rfl
@[go_sem] theorem int188 : tyInt Try.prog 188 = none := by kernel_rfl
@[go_sem] theorem str188 : tyStr Try.prog 188 = false := by kernel_rfl
@[go_sem] theorem bool188 : tyBool Try.prog 188 = false := by kernel_rfl
@[go_sem] theorem z188 : tyZ Try.prog 188 = some ((.junk) :: []) := by kernel_rfl
@[go_sem] theorem und189 : (Try.prog.underlying 189).isSome = true := by kernel_rfl
@[go_sem] theorem as189 : tyAS Try.prog 189 = some (false, 1) := by kernel_rfl
@[go_sem] theorem sl189 : tySl Try.prog 189 = none := by kernel_rfl
@[go_sem] theorem int189 : tyInt Try.prog 189 = none := by kernel_rfl
@[go_sem] theorem str189 : tyStr Try.prog 189 = false := by kernel_rfl
@[go_sem] theorem bool189 : tyBool Try.prog 189 = false := by kernel_rfl
@[go_sem] theorem z189 : tyZ Try.prog 189 = some ((.junk) :: []) := by kernel_rfl
@[go_sem] theorem und190 : (Try.prog.underlying 190).isSome = true := by kernel_rfl
@[go_sem] theorem as190 : tyAS Try.prog 190 = some (true, 4) := by kernel_rfl
@[go_sem] theorem sl190 : tySl Try.prog 190 = none := by kernel_rfl
@[go_sem] theorem int190 : tyInt Try.prog 190 = none := by kernel_rfl
@[go_sem] theorem str190 : tyStr Try.prog 190 = false := by kernel_rfl
@[go_sem] theorem bool190 : tyBool Try.prog 190 = false := by kernel_rfl
@[go_sem] theorem z190 : tyZ Try.prog 190 = some ((.nilp) :: (.nilp) :: (.nilp) :: (.str ⟨#[]⟩) :: []) := by kernel_rfl
@[go_sem] theorem fs190 : tyFs Try.prog 190 = some ((0, 1) :: (1, 1) :: (2, 1) :: (3, 1) :: []) := by kernel_rfl
@[go_sem] theorem fld190_0 : tyFld Try.prog 190 0 = some (0, 1, false) := by kernel_rfl
@[go_sem] theorem fld190_1 : tyFld Try.prog 190 1 = some (1, 1, false) := by kernel_rfl
@[go_sem] theorem fld190_2 : tyFld Try.prog 190 2 = some (2, 1, false) := by kernel_rfl
@[go_sem] theorem fld190_3 : tyFld Try.prog 190 3 = some (3, 1, false) := by kernel_rfl
@[go_sem] theorem und191 : (Try.prog.underlying 191).isSome = true := by kernel_rfl
@[go_sem] theorem as191 : tyAS Try.prog 191 = some (true, 4) := by kernel_rfl
@[go_sem] theorem sl191 : tySl Try.prog 191 = none := by kernel_rfl
@[go_sem] theorem int191 : tyInt Try.prog 191 = none := by kernel_rfl
@[go_sem] theorem str191 : tyStr Try.prog 191 = false := by kernel_rfl
@[go_sem] theorem bool191 : tyBool Try.prog 191 = false := by kernel_rfl
@[go_sem] theorem z191 : tyZ Try.prog 191 = some ((.nilp) :: (.nilp) :: (.nilp) :: (.str ⟨#[]⟩) :: []) := by kernel_rfl
@[go_sem] theorem fs191 : tyFs Try.prog 191 = some ((0, 1) :: (1, 1) :: (2, 1) :: (3, 1) :: []) := by kernel_rfl
@[go_sem] theorem fld191_0 : tyFld Try.prog 191 0 = some (0, 1, false) := by kernel_rfl
@[go_sem] theorem fld191_1 : tyFld Try.prog 191 1 = some (1, 1, false) := by kernel_rfl
@[go_sem] theorem fld191_2 : tyFld Try.prog 191 2 = some (2, 1, false) := by kernel_rfl
@[go_sem] theorem fld191_3 : tyFld Try.prog 191 3 = some (3, 1, false) := by kernel_rfl
@[go_sem] theorem und192 : (Try.prog.underlying 192).isSome = true := by kernel_rfl
@[go_sem] theorem as192 : tyAS Try.prog 192 = some (true, 0) := by kernel_rfl
@[go_sem] theorem sl192 : tySl Try.prog 192 = none := by kernel_rfl
@[go_sem] theorem int192 : tyInt Try.prog 192 = none := by kernel_rfl
@[go_sem] theorem str192 : tyStr Try.prog 192 = false := by kernel_rfl
@[go_sem] theorem bool192 : tyBool Try.prog 192 = false := by kernel_rfl
@[go_sem] theorem z192 : tyZ Try.prog 192 = some ([]) := by kernel_rfl
@[go_sem] theorem und193 : (Try.prog.underlying 193).isSome = true := by kernel_rfl
@[go_sem] theorem as193 : tyAS Try.prog 193 = some (true, 0) := by kernel_rfl
@[go_sem] theorem sl193 : tySl Try.prog 193 = none := by kernel_rfl
@[go_sem] theorem int193 : tyInt Try.prog 193 = none := by kernel_rfl
@[go_sem] theorem str193 : tyStr Try.prog 193 = false := by kernel_rfl
@[go_sem] theorem bool193 : tyBool Try.prog 193 = false := by kernel_rfl
@[go_sem] theorem z193 : tyZ Try.prog 193 = some ([]) := by kernel_rfl
@[go_sem] theorem fs193 : tyFs Try.prog 193 = some ((0, 0) :: []) := by kernel_rfl
@[go_sem] theorem und194 : (Try.prog.underlying 194).isSome = true := by kernel_rfl
@[go_sem] theorem as194 : tyAS Try.prog 194 = some (true, 0) := by kernel_rfl
@[go_sem] theorem sl194 : tySl Try.prog 194 = none := by kernel_rfl
@[go_sem] theorem int194 : tyInt Try.prog 194 = none := by kernel_rfl
@[go_sem] theorem str194 : tyStr Try.prog 194 = false := by kernel_rfl
@[go_sem] theorem bool194 : tyBool Try.prog 194 = false := by kernel_rfl
@[go_sem] theorem z194 : tyZ Try.prog 194 = some ([]) := by kernel_rfl
@[go_sem] theorem fs194 : tyFs Try.prog 194 = some ((0, 0) :: []) := by kernel_rfl
@[go_sem] theorem und195 : (Try.prog.underlying 195).isSome = true := by kernel_rfl
@[go_sem] theorem as195 : tyAS Try.prog 195 = some (false, 1) := by kernel_rfl
@[go_sem] theorem sl195 : tySl Try.prog 195 = none := by kernel_rfl
@[go_sem] theorem int195 : tyInt Try.prog 195 = some (.u32) := by kernel_rfl
@[go_sem] theorem str195 : tyStr Try.prog 195 = false := by kernel_rfl
@[go_sem] theorem bool195 : tyBool Try.prog 195 = false := by kernel_rfl
@[go_sem] theorem z195 : tyZ Try.prog 195 = some ((.int .u32 (0)) :: []) := by kernel_rfl
@[go_sem] theorem und196 : (Try.prog.underlying 196).isSome = true := by kernel_rfl
@[go_sem] theorem as196 : tyAS Try.prog 196 = some (false, 1) := by kernel_rfl
@[go_sem] theorem sl196 : tySl Try.prog 196 = none := by kernel_rfl
@[go_sem] theorem int196 : tyInt Try.prog 196 = some (.u8) := by kernel_rfl
@[go_sem] theorem str196 : tyStr Try.prog 196 = false := by kernel_rfl
@[go_sem] theorem bool196 : tyBool Try.prog 196 = false := by kernel_rfl
@[go_sem] theorem z196 : tyZ Try.prog 196 = some ((.int .u8 (0)) :: []) := by kernel_rfl
@[go_sem] theorem und197 : (Try.prog.underlying 197).isSome = true := by kernel_rfl
@[go_sem] theorem as197 : tyAS Try.prog 197 = some (false, 1) := by kernel_rfl
@[go_sem] theorem sl197 : tySl Try.prog 197 = none := by kernel_rfl
@[go_sem] theorem int197 : tyInt Try.prog 197 = some (.u8) := by kernel_rfl
@[go_sem] theorem str197 : tyStr Try.prog 197 = false := by kernel_rfl
@[go_sem] theorem bool197 : tyBool Try.prog 197 = false := by kernel_rfl
@[go_sem] theorem z197 : tyZ Try.prog 197 = some ((.int .u8 (0)) :: []) := by kernel_rfl
@[go_sem] theorem und198 : (Try.prog.underlying 198).isSome = true := by kernel_rfl
@[go_sem] theorem as198 : tyAS Try.prog 198 = some (false, 1) := by kernel_rfl
@[go_sem] theorem sl198 : tySl Try.prog 198 = none := by kernel_rfl
@[go_sem] theorem int198 : tyInt Try.prog 198 = none := by kernel_rfl
@[go_sem] theorem str198 : tyStr Try.prog 198 = false := by kernel_rfl
@[go_sem] theorem bool198 : tyBool Try.prog 198 = false := by kernel_rfl
@[go_sem] theorem z198 : tyZ Try.prog 198 = some ((.junk) :: []) := by kernel_rfl
@[go_sem] theorem und199 : (Try.prog.underlying 199).isSome = true := by kernel_rfl
@[go_sem] theorem as199 : tyAS Try.prog 199 = some (false, 1) := by kernel_rfl
@[go_sem] theorem sl199 : tySl Try.prog 199 = none := by kernel_rfl
@[go_sem] theorem int199 : tyInt Try.prog 199 = none := by kernel_rfl
@[go_sem] theorem str199 : tyStr Try.prog 199 = false := by kernel_rfl
@[go_sem] theorem bool199 : tyBool Try.prog 199 = false := by kernel_rfl
@[go_sem] theorem z199 : tyZ Try.prog 199 = some ((.nilp) :: []) := by kernel_rfl
@[go_sem] theorem und200 : (Try.prog.underlying 200).isSome = true := by kernel_rfl
@[go_sem] theorem as200 : tyAS Try.prog 200 = some (false, 1) := by kernel_rfl
@[go_sem] theorem sl200 : tySl Try.prog 200 = none := by kernel_rfl
@[go_sem] theorem int200 : tyInt Try.prog 200 = some (.i32) := by kernel_rfl
@[go_sem] theorem str200 : tyStr Try.prog 200 = false := by kernel_rfl
@[go_sem] theorem bool200 : tyBool Try.prog 200 = false := by kernel_rfl
@[go_sem] theorem z200 : tyZ Try.prog 200 = some ((.int .i32 (0)) :: []) := by kernel_rfl
@[go_sem] theorem und201 : (Try.prog.underlying 201).isSome = true := by kernel_rfl
@[go_sem] theorem as201 : tyAS Try.prog 201 = some (false, 1) := by kernel_rfl
@[go_sem] theorem sl201 : tySl Try.prog 201 = none := by kernel_rfl
@[go_sem] theorem int201 : tyInt Try.prog 201 = some (.i32) := by kernel_rfl
@[go_sem] theorem str201 : tyStr Try.prog 201 = false := by kernel_rfl
@[go_sem] theorem bool201 : tyBool Try.prog 201 = false := by kernel_rfl
@[go_sem] theorem z201 : tyZ Try.prog 201 = some ((.int .i32 (0)) :: []) := by kernel_rfl
@[go_sem] theorem und202 : (Try.prog.underlying 202).isSome = true := by kernel_rfl
@[go_sem] theorem as202 : tyAS Try.prog 202 = some (true, 11) := by kernel_rfl
@[go_sem] theorem sl202 : tySl Try.prog 202 = none := by kernel_rfl
@[go_sem] theorem int202 : tyInt Try.prog 202 = none := by kernel_rfl
@[go_sem] theorem str202 : tyStr Try.prog 202 = false := by kernel_rfl
@[go_sem] theorem bool202 : tyBool Try.prog 202 = false := by kernel_rfl
@[go_sem] theorem z202 : tyZ Try.prog 202 = some ((.int .u64 (0)) :: (.int .u64 (0)) :: (.int .u32 (0)) :: (.int .u8 (0)) :: (.int .u8 (0)) :: (.int .u8 (0)) :: (.int .u8 (0)) :: (.junk) :: (.nilp) :: (.int .i32 (0)) :: (.int .i32 (0)) :: []) := by kernel_rfl
@[go_sem] theorem fs202 : tyFs Try.prog 202 = some ((0, 1) :: (1, 1) :: (2, 1) :: (3, 1) :: (4, 1) :: (5, 1) :: (6, 1) :: (7, 1) :: (8, 1) :: (9, 1) :: (10, 1) :: []) := by kernel_rfl
@[go_sem] theorem fld202_0 : tyFld Try.prog 202 0 = some (0, 1, false) := by kernel_rfl
@[go_sem] theorem fld202_1 : tyFld Try.prog 202 1 = some (1, 1, false) := by kernel_rfl
@[go_sem] theorem fld202_2 : tyFld Try.prog 202 2 = some (2, 1, false) := by kernel_rfl
@[go_sem] theorem fld202_3 : tyFld Try.prog 202 3 = some (3, 1, false) := by kernel_rfl
@[go_sem] theorem fld202_4 : tyFld Try.prog 202 4 = some (4, 1, false) := by kernel_rfl
@[go_sem] theorem fld202_5 : tyFld Try.prog 202 5 = some (5, 1, false) := by kernel_rfl
@[go_sem] theorem fld202_6 : tyFld Try.prog 202 6 = some (6, 1, false) := by kernel_rfl
@[go_sem] theorem fld202_7 : tyFld Try.prog 202 7 = some (7, 1, false) := by kernel_rfl
@[go_sem] theorem fld202_8 : tyFld Try.prog 202 8 = some (8, 1, false) := by kernel_rfl
@[go_sem] theorem fld202_9 : tyFld Try.prog 202 9 = some (9, 1, false) := by kernel_rfl
@[go_sem] theorem fld202_10 : tyFld Try.prog 202 10 = some (10, 1, false) := by kernel_rfl
@[go_sem] theorem und203 : (Try.prog.underlying 203).isSome = true := by kernel_rfl
@[go_sem] theorem as203 : tyAS Try.prog 203 = some (true, 11) := by kernel_rfl
@[go_sem] theorem sl203 : tySl Try.prog 203 = none := by kernel_rfl
@[go_sem] theorem int203 : tyInt Try.prog 203 = none := by kernel_rfl
@[go_sem] theorem str203 : tyStr Try.prog 203 = false := by kernel_rfl
@[go_sem] theorem bool203 : tyBool Try.prog 203 = false := by kernel_rfl
@[go_sem] theorem z203 : tyZ Try.prog 203 = some ((.int .u64 (0)) :: (.int .u64 (0)) :: (.int .u32 (0)) :: (.int .u8 (0)) :: (.int .u8 (0)) :: (.int .u8 (0)) :: (.int .u8 (0)) :: (.junk) :: (.nilp) :: (.int .i32 (0)) :: (.int .i32 (0)) :: []) := by kernel_rfl
@[go_sem] theorem fs203 : tyFs Try.prog 203 = some ((0, 1) :: (1, 1) :: (2, 1) :: (3, 1) :: (4, 1) :: (5, 1) :: (6, 1) :: (7, 1) :: (8, 1) :: (9, 1) :: (10, 1) :: []) := by kernel_rfl
@[go_sem] theorem fld203_0 : tyFld Try.prog 203 0 = some (0, 1, false) := by kernel_rfl
@[go_sem] theorem fld203_1 : tyFld Try.prog 203 1 = some (1, 1, false) := by kernel_rfl
@[go_sem] theorem fld203_2 : tyFld Try.prog 203 2 = some (2, 1, false) := by kernel_rfl
@[go_sem] theorem fld203_3 : tyFld Try.prog 203 3 = some (3, 1, false) := by kernel_rfl
@[go_sem] theorem fld203_4 : tyFld Try.prog 203 4 = some (4, 1, false) := by kernel_rfl
@[go_sem] theorem fld203_5 : tyFld Try.prog 203 5 = some (5, 1, false) := by kernel_rfl
@[go_sem] theorem fld203_6 : tyFld Try.prog 203 6 = some (6, 1, false) := by kernel_rfl
@[go_sem] theorem fld203_7 : tyFld Try.prog 203 7 = some (7, 1, false) := by kernel_rfl
@[go_sem] theorem fld203_8 : tyFld Try.prog 203 8 = some (8, 1, false) := by kernel_rfl
@[go_sem] theorem fld203_9 : tyFld Try.prog 203 9 = some (9, 1, false) := by kernel_rfl
@[go_sem] theorem fld203_10 : tyFld Try.prog 203 10 = some (10, 1, false) := by kernel_rfl
@[go_sem] theorem und204 : (Try.prog.underlying 204).isSome = true := by kernel_rfl
@[go_sem] theorem as204 : tyAS Try.prog 204 = some (false, 1) := by kernel_rfl
@[go_sem] theorem sl204 : tySl Try.prog 204 = none := by kernel_rfl
@[go_sem] theorem int204 : tyInt Try.prog 204 = none := by kernel_rfl
@[go_sem] theorem str204 : tyStr Try.prog 204 = false := by kernel_rfl
@[go_sem] theorem bool204 : tyBool Try.prog 204 = false := by kernel_rfl
@[go_sem] theorem z204 : tyZ Try.prog 204 = some ((.nilp) :: []) := by kernel_rfl
end Go.TH
