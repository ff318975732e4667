/- TH: what the types of seat f are. Printed by facts.sh. -/
import Derived.Test.YtipoefabimcbdaaDoorTf2
import Derived.Test.YtipoefabimcbdaaDoorProg
namespace Go.TH
open Go Go.Proofs
@[go_sem] theorem und0 : (Tryd.prog.underlying 0).isSome = true := by kernel_rfl
@[go_sem] theorem as0 : tyAS Tryd.prog 0 = some (false, 1) := by kernel_rfl
@[go_sem] theorem sl0 : tySl Tryd.prog 0 = none := by kernel_rfl
@[go_sem] theorem int0 : tyInt Tryd.prog 0 = none := by kernel_rfl
@[go_sem] theorem str0 : tyStr Tryd.prog 0 = false := by kernel_rfl
@[go_sem] theorem bool0 : tyBool Tryd.prog 0 = false := by kernel_rfl
@[go_sem] theorem und1 : (Tryd.prog.underlying 1).isSome = true := by kernel_rfl
@[go_sem] theorem as1 : tyAS Tryd.prog 1 = some (false, 1) := by kernel_rfl
@[go_sem] theorem sl1 : tySl Tryd.prog 1 = none := by kernel_rfl
@[go_sem] theorem int1 : tyInt Tryd.prog 1 = none := by kernel_rfl
@[go_sem] theorem str1 : tyStr Tryd.prog 1 = false := by kernel_rfl
@[go_sem] theorem bool1 : tyBool Tryd.prog 1 = false := by kernel_rfl
@[go_sem] theorem z1 : tyZ Tryd.prog 1 = some ((.junk) :: []) := by kernel_rfl
@[go_sem] theorem und2 : (Tryd.prog.underlying 2).isSome = true := by kernel_rfl
@[go_sem] theorem as2 : tyAS Tryd.prog 2 = some (false, 1) := by kernel_rfl
@[go_sem] theorem sl2 : tySl Tryd.prog 2 = none := by kernel_rfl
@[go_sem] theorem int2 : tyInt Tryd.prog 2 = some (.i64) := by kernel_rfl
@[go_sem] theorem str2 : tyStr Tryd.prog 2 = false := by kernel_rfl
@[go_sem] theorem bool2 : tyBool Tryd.prog 2 = false := by kernel_rfl
@[go_sem] theorem z2 : tyZ Tryd.prog 2 = some ((.int .i64 (0)) :: []) := by kernel_rfl
@[go_sem] theorem und3 : (Tryd.prog.underlying 3).isSome = true := by kernel_rfl
@[go_sem] theorem as3 : tyAS Tryd.prog 3 = some (false, 1) := by kernel_rfl
@[go_sem] theorem sl3 : tySl Tryd.prog 3 = none := by kernel_rfl
@[go_sem] theorem int3 : tyInt Tryd.prog 3 = some (.i64) := by kernel_rfl
@[go_sem] theorem str3 : tyStr Tryd.prog 3 = false := by kernel_rfl
@[go_sem] theorem bool3 : tyBool Tryd.prog 3 = false := by kernel_rfl
@[go_sem] theorem z3 : tyZ Tryd.prog 3 = some ((.int .i64 (0)) :: []) := by kernel_rfl
@[go_sem] theorem und4 : (Tryd.prog.underlying 4).isSome = true := by kernel_rfl
@[go_sem] theorem as4 : tyAS Tryd.prog 4 = some (false, 1) := by kernel_rfl
@[go_sem] theorem sl4 : tySl Tryd.prog 4 = none := by kernel_rfl
@[go_sem] theorem int4 : tyInt Tryd.prog 4 = none := by kernel_rfl
@[go_sem] theorem str4 : tyStr Tryd.prog 4 = false := by kernel_rfl
@[go_sem] theorem bool4 : tyBool Tryd.prog 4 = true := by kernel_rfl
@[go_sem] theorem z4 : tyZ Tryd.prog 4 = some ((.bool false) :: []) := by kernel_rfl
@[go_sem] theorem und5 : (Tryd.prog.underlying 5).isSome = true := by kernel_rfl
@[go_sem] theorem as5 : tyAS Tryd.prog 5 = some (false, 1) := by kernel_rfl
@[go_sem] theorem sl5 : tySl Tryd.prog 5 = none := by kernel_rfl
@[go_sem] theorem int5 : tyInt Tryd.prog 5 = some (.u8) := by kernel_rfl
@[go_sem] theorem str5 : tyStr Tryd.prog 5 = false := by kernel_rfl
@[go_sem] theorem bool5 : tyBool Tryd.prog 5 = false := by kernel_rfl
@[go_sem] theorem z5 : tyZ Tryd.prog 5 = some ((.int .u8 (0)) :: []) := by kernel_rfl
@[go_sem] theorem und6 : (Tryd.prog.underlying 6).isSome = true := by kernel_rfl
@[go_sem] theorem as6 : tyAS Tryd.prog 6 = some (false, 1) := by kernel_rfl
@[go_sem] theorem sl6 : tySl Tryd.prog 6 = none := by kernel_rfl
@[go_sem] theorem int6 : tyInt Tryd.prog 6 = some (.u8) := by kernel_rfl
@[go_sem] theorem str6 : tyStr Tryd.prog 6 = false := by kernel_rfl
@[go_sem] theorem bool6 : tyBool Tryd.prog 6 = false := by kernel_rfl
@[go_sem] theorem z6 : tyZ Tryd.prog 6 = some ((.int .u8 (0)) :: []) := by kernel_rfl
@[go_sem] theorem und7 : (Tryd.prog.underlying 7).isSome = true := by kernel_rfl
@[go_sem] theorem as7 : tyAS Tryd.prog 7 = some (true, 4) := by kernel_rfl
@[go_sem] theorem sl7 : tySl Tryd.prog 7 = none := by kernel_rfl
@[go_sem] theorem int7 : tyInt Tryd.prog 7 = none := by kernel_rfl
@[go_sem] theorem str7 : tyStr Tryd.prog 7 = false := by kernel_rfl
@[go_sem] theorem bool7 : tyBool Tryd.prog 7 = false := by kernel_rfl
@[go_sem] theorem z7 : tyZ Tryd.prog 7 = some ((.int .i64 (0)) :: (.int .i64 (0)) :: (.bool false) :: (.int .u8 (0)) :: []) := by kernel_rfl
@[go_sem] theorem fs7 : tyFs Tryd.prog 7 = some ((0, 1) :: (1, 1) :: (2, 1) :: (3, 1) :: []) := by kernel_rfl
@[go_sem] theorem eq7 : tyEq Tryd.prog 7 = some ((.int .i64) :: (.int .i64) :: (.bool) :: (.int .u8) :: []) := by kernel_rfl
@[go_sem] theorem fld7_0 : tyFld Tryd.prog 7 0 = some (0, 1, false) := by kernel_rfl
@[go_sem] theorem fld7_1 : tyFld Tryd.prog 7 1 = some (1, 1, false) := by kernel_rfl
@[go_sem] theorem fld7_2 : tyFld Tryd.prog 7 2 = some (2, 1, false) := by kernel_rfl
@[go_sem] theorem fld7_3 : tyFld Tryd.prog 7 3 = some (3, 1, false) := by kernel_rfl
@[go_sem] theorem und8 : (Tryd.prog.underlying 8).isSome = true := by kernel_rfl
@[go_sem] theorem as8 : tyAS Tryd.prog 8 = some (true, 4) := by kernel_rfl
@[go_sem] theorem sl8 : tySl Tryd.prog 8 = none := by kernel_rfl
@[go_sem] theorem int8 : tyInt Tryd.prog 8 = none := by kernel_rfl
@[go_sem] theorem str8 : tyStr Tryd.prog 8 = false := by kernel_rfl
@[go_sem] theorem bool8 : tyBool Tryd.prog 8 = false := by kernel_rfl
@[go_sem] theorem z8 : tyZ Tryd.prog 8 = some ((.int .i64 (0)) :: (.int .i64 (0)) :: (.bool false) :: (.int .u8 (0)) :: []) := by kernel_rfl
@[go_sem] theorem fs8 : tyFs Tryd.prog 8 = some ((0, 1) :: (1, 1) :: (2, 1) :: (3, 1) :: []) := by kernel_rfl
@[go_sem] theorem eq8 : tyEq Tryd.prog 8 = some ((.int .i64) :: (.int .i64) :: (.bool) :: (.int .u8) :: []) := by kernel_rfl
@[go_sem] theorem fld8_0 : tyFld Tryd.prog 8 0 = some (0, 1, false) := by kernel_rfl
@[go_sem] theorem fld8_1 : tyFld Tryd.prog 8 1 = some (1, 1, false) := by kernel_rfl
@[go_sem] theorem fld8_2 : tyFld Tryd.prog 8 2 = some (2, 1, false) := by kernel_rfl
@[go_sem] theorem fld8_3 : tyFld Tryd.prog 8 3 = some (3, 1, false) := by kernel_rfl
@[go_sem] theorem und9 : (Tryd.prog.underlying 9).isSome = true := by kernel_rfl
@[go_sem] theorem as9 : tyAS Tryd.prog 9 = some (false, 1) := by kernel_rfl
@[go_sem] theorem sl9 : tySl Tryd.prog 9 = none := by kernel_rfl
@[go_sem] theorem int9 : tyInt Tryd.prog 9 = none := by kernel_rfl
@[go_sem] theorem str9 : tyStr Tryd.prog 9 = true := by kernel_rfl
@[go_sem] theorem bool9 : tyBool Tryd.prog 9 = false := by kernel_rfl
@[go_sem] theorem z9 : tyZ Tryd.prog 9 = some ((.str ⟨#[]⟩) :: []) := by kernel_rfl
@[go_sem] theorem und10 : (Tryd.prog.underlying 10).isSome = true := by kernel_rfl
@[go_sem] theorem as10 : tyAS Tryd.prog 10 = some (false, 1) := by kernel_rfl
@[go_sem] theorem sl10 : tySl Tryd.prog 10 = none := by kernel_rfl
@[go_sem] theorem int10 : tyInt Tryd.prog 10 = none := by kernel_rfl
@[go_sem] theorem str10 : tyStr Tryd.prog 10 = true := by kernel_rfl
@[go_sem] theorem bool10 : tyBool Tryd.prog 10 = false := by kernel_rfl
@[go_sem] theorem z10 : tyZ Tryd.prog 10 = some ((.str ⟨#[]⟩) :: []) := by kernel_rfl
@[go_sem] theorem und11 : (Tryd.prog.underlying 11).isSome = true := by kernel_rfl
@[go_sem] theorem as11 : tyAS Tryd.prog 11 = some (false, 1) := by kernel_rfl
@[go_sem] theorem sl11 : tySl Tryd.prog 11 = none := by kernel_rfl
@[go_sem] theorem int11 : tyInt Tryd.prog 11 = none := by kernel_rfl
@[go_sem] theorem str11 : tyStr Tryd.prog 11 = true := by kernel_rfl
@[go_sem] theorem bool11 : tyBool Tryd.prog 11 = false := by kernel_rfl
@[go_sem] theorem z11 : tyZ Tryd.prog 11 = some ((.str ⟨#[]⟩) :: []) := by kernel_rfl
@[go_sem] theorem und12 : (Tryd.prog.underlying 12).isSome = true := by kernel_rfl
@[go_sem] theorem as12 : tyAS Tryd.prog 12 = some (false, 1) := by kernel_rfl
@[go_sem] theorem sl12 : tySl Tryd.prog 12 = none := by kernel_rfl
@[go_sem] theorem int12 : tyInt Tryd.prog 12 = some (.u64) := by kernel_rfl
@[go_sem] theorem str12 : tyStr Tryd.prog 12 = false := by kernel_rfl
@[go_sem] theorem bool12 : tyBool Tryd.prog 12 = false := by kernel_rfl
@[go_sem] theorem z12 : tyZ Tryd.prog 12 = some ((.int .u64 (0)) :: []) := by kernel_rfl
@[go_sem] theorem und13 : (Tryd.prog.underlying 13).isSome = true := by kernel_rfl
@[go_sem] theorem as13 : tyAS Tryd.prog 13 = some (true, 2) := by kernel_rfl
@[go_sem] theorem sl13 : tySl Tryd.prog 13 = none := by kernel_rfl
@[go_sem] theorem int13 : tyInt Tryd.prog 13 = none := by kernel_rfl
@[go_sem] theorem str13 : tyStr Tryd.prog 13 = false := by kernel_rfl
@[go_sem] theorem bool13 : tyBool Tryd.prog 13 = false := by kernel_rfl
@[go_sem] theorem z13 : tyZ Tryd.prog 13 = some ((.str ⟨#[]⟩) :: (.int .u64 (0)) :: []) := by kernel_rfl
@[go_sem] theorem fs13 : tyFs Tryd.prog 13 = some ((0, 1) :: (1, 1) :: []) := by kernel_rfl
@[go_sem] theorem fld13_0 : tyFld Tryd.prog 13 0 = some (0, 1, false) := by kernel_rfl
@[go_sem] theorem fld13_1 : tyFld Tryd.prog 13 1 = some (1, 1, false) := by kernel_rfl
@[go_sem] theorem und14 : (Tryd.prog.underlying 14).isSome = true := by kernel_rfl
@[go_sem] theorem as14 : tyAS Tryd.prog 14 = some (true, 2) := by kernel_rfl
@[go_sem] theorem sl14 : tySl Tryd.prog 14 = none := by kernel_rfl
@[go_sem] theorem int14 : tyInt Tryd.prog 14 = none := by kernel_rfl
@[go_sem] theorem str14 : tyStr Tryd.prog 14 = false := by kernel_rfl
@[go_sem] theorem bool14 : tyBool Tryd.prog 14 = false := by kernel_rfl
@[go_sem] theorem z14 : tyZ Tryd.prog 14 = some ((.str ⟨#[]⟩) :: (.int .u64 (0)) :: []) := by kernel_rfl
@[go_sem] theorem fs14 : tyFs Tryd.prog 14 = some ((0, 1) :: (1, 1) :: []) := by kernel_rfl
@[go_sem] theorem fld14_0 : tyFld Tryd.prog 14 0 = some (0, 1, false) := by kernel_rfl
@[go_sem] theorem fld14_1 : tyFld Tryd.prog 14 1 = some (1, 1, false) := by kernel_rfl
@[go_sem] theorem und15 : (Tryd.prog.underlying 15).isSome = true := by kernel_rfl
@[go_sem] theorem as15 : tyAS Tryd.prog 15 = some (false, 1) := by kernel_rfl
@[go_sem] theorem sl15 : tySl Tryd.prog 15 = none := by kernel_rfl
@[go_sem] theorem int15 : tyInt Tryd.prog 15 = none := by kernel_rfl
@[go_sem] theorem str15 : tyStr Tryd.prog 15 = false := by kernel_rfl
@[go_sem] theorem bool15 : tyBool Tryd.prog 15 = false := by kernel_rfl
@[go_sem] theorem z15 : tyZ Tryd.prog 15 = some ((.nilp) :: []) := by kernel_rfl
@[go_sem] theorem und16 : (Tryd.prog.underlying 16).isSome = true := by kernel_rfl
@[go_sem] theorem as16 : tyAS Tryd.prog 16 = some (false, 1) := by kernel_rfl
@[go_sem] theorem sl16 : tySl Tryd.prog 16 = none := by kernel_rfl
@[go_sem] theorem int16 : tyInt Tryd.prog 16 = none := by kernel_rfl
@[go_sem] theorem str16 : tyStr Tryd.prog 16 = false := by kernel_rfl
@[go_sem] theorem bool16 : tyBool Tryd.prog 16 = false := by kernel_rfl
@[go_sem] theorem z16 : tyZ Tryd.prog 16 = some ((.nilp) :: []) := by kernel_rfl
@[go_sem] theorem und17 : (Tryd.prog.underlying 17).isSome = true := by kernel_rfl
@[go_sem] theorem as17 : tyAS Tryd.prog 17 = some (false, 1) := by kernel_rfl
@[go_sem] theorem sl17 : tySl Tryd.prog 17 = none := by kernel_rfl
@[go_sem] theorem int17 : tyInt Tryd.prog 17 = none := by kernel_rfl
@[go_sem] theorem str17 : tyStr Tryd.prog 17 = false := by kernel_rfl
@[go_sem] theorem bool17 : tyBool Tryd.prog 17 = false := by kernel_rfl
@[go_sem] theorem z17 : tyZ Tryd.prog 17 = some ((.nilp) :: []) := by kernel_rfl
@[go_sem] theorem und18 : (Tryd.prog.underlying 18).isSome = true := by kernel_rfl
@[go_sem] theorem as18 : tyAS Tryd.prog 18 = some (true, 1) := by kernel_rfl
@[go_sem] theorem sl18 : tySl Tryd.prog 18 = none := by kernel_rfl
@[go_sem] theorem int18 : tyInt Tryd.prog 18 = none := by kernel_rfl
@[go_sem] theorem str18 : tyStr Tryd.prog 18 = false := by kernel_rfl
@[go_sem] theorem bool18 : tyBool Tryd.prog 18 = false := by kernel_rfl
@[go_sem] theorem z18 : tyZ Tryd.prog 18 = some ((.nilp) :: []) := by kernel_rfl
@[go_sem] theorem fs18 : tyFs Tryd.prog 18 = some ((0, 1) :: []) := by kernel_rfl
@[go_sem] theorem fld18_0 : tyFld Tryd.prog 18 0 = some (0, 1, false) := by kernel_rfl
@[go_sem] theorem und19 : (Tryd.prog.underlying 19).isSome = true := by kernel_rfl
@[go_sem] theorem as19 : tyAS Tryd.prog 19 = some (true, 1) := by kernel_rfl
@[go_sem] theorem sl19 : tySl Tryd.prog 19 = none := by kernel_rfl
@[go_sem] theorem int19 : tyInt Tryd.prog 19 = none := by kernel_rfl
@[go_sem] theorem str19 : tyStr Tryd.prog 19 = false := by kernel_rfl
@[go_sem] theorem bool19 : tyBool Tryd.prog 19 = false := by kernel_rfl
@[go_sem] theorem z19 : tyZ Tryd.prog 19 = some ((.nilp) :: []) := by kernel_rfl
@[go_sem] theorem fs19 : tyFs Tryd.prog 19 = some ((0, 1) :: []) := by kernel_rfl
@[go_sem] theorem fld19_0 : tyFld Tryd.prog 19 0 = some (0, 1, false) := by kernel_rfl
@[go_sem] theorem und20 : (Tryd.prog.underlying 20).isSome = true := by kernel_rfl
@[go_sem] theorem as20 : tyAS Tryd.prog 20 = some (false, 1) := by kernel_rfl
@[go_sem] theorem sl20 : tySl Tryd.prog 20 = none := by kernel_rfl
@[go_sem] theorem int20 : tyInt Tryd.prog 20 = none := by kernel_rfl
@[go_sem] theorem str20 : tyStr Tryd.prog 20 = false := by kernel_rfl
@[go_sem] theorem bool20 : tyBool Tryd.prog 20 = false := by kernel_rfl
@[go_sem] theorem z20 : tyZ Tryd.prog 20 = some ((.junk) :: []) := by kernel_rfl
@[go_sem] theorem und21 : (Tryd.prog.underlying 21).isSome = true := by kernel_rfl
@[go_sem] theorem as21 : tyAS Tryd.prog 21 = some (false, 1) := by kernel_rfl
@[go_sem] theorem sl21 : tySl Tryd.prog 21 = none := by kernel_rfl
@[go_sem] theorem int21 : tyInt Tryd.prog 21 = some (.i32) := by kernel_rfl
@[go_sem] theorem str21 : tyStr Tryd.prog 21 = false := by kernel_rfl
@[go_sem] theorem bool21 : tyBool Tryd.prog 21 = false := by kernel_rfl
@[go_sem] theorem z21 : tyZ Tryd.prog 21 = some ((.int .i32 (0)) :: []) := by kernel_rfl
@[go_sem] theorem und22 : (Tryd.prog.underlying 22).isSome = true := by kernel_rfl
@[go_sem] theorem as22 : tyAS Tryd.prog 22 = some (true, 3) := by kernel_rfl
@[go_sem] theorem sl22 : tySl Tryd.prog 22 = none := by kernel_rfl
@[go_sem] theorem int22 : tyInt Tryd.prog 22 = none := by kernel_rfl
@[go_sem] theorem str22 : tyStr Tryd.prog 22 = false := by kernel_rfl
@[go_sem] theorem bool22 : tyBool Tryd.prog 22 = false := by kernel_rfl
@[go_sem] theorem z22 : tyZ Tryd.prog 22 = some ((.int .i64 (0)) :: (.int .i64 (0)) :: (.str ⟨#[]⟩) :: []) := by kernel_rfl
@[go_sem] theorem fs22 : tyFs Tryd.prog 22 = some ((0, 1) :: (1, 1) :: (2, 1) :: []) := by kernel_rfl
@[go_sem] theorem eq22 : tyEq Tryd.prog 22 = some ((.int .i64) :: (.int .i64) :: (.str) :: []) := by kernel_rfl
@[go_sem] theorem fld22_0 : tyFld Tryd.prog 22 0 = some (0, 1, false) := by kernel_rfl
@[go_sem] theorem fld22_1 : tyFld Tryd.prog 22 1 = some (1, 1, false) := by kernel_rfl
@[go_sem] theorem fld22_2 : tyFld Tryd.prog 22 2 = some (2, 1, false) := by kernel_rfl
@[go_sem] theorem und23 : (Tryd.prog.underlying 23).isSome = true := by kernel_rfl
@[go_sem] theorem as23 : tyAS Tryd.prog 23 = some (true, 3) := by kernel_rfl
@[go_sem] theorem sl23 : tySl Tryd.prog 23 = none := by kernel_rfl
@[go_sem] theorem int23 : tyInt Tryd.prog 23 = none := by kernel_rfl
@[go_sem] theorem str23 : tyStr Tryd.prog 23 = false := by kernel_rfl
@[go_sem] theorem bool23 : tyBool Tryd.prog 23 = false := by kernel_rfl
@[go_sem] theorem z23 : tyZ Tryd.prog 23 = some ((.int .i64 (0)) :: (.int .i64 (0)) :: (.str ⟨#[]⟩) :: []) := by kernel_rfl
@[go_sem] theorem fs23 : tyFs Tryd.prog 23 = some ((0, 1) :: (1, 1) :: (2, 1) :: []) := by kernel_rfl
@[go_sem] theorem eq23 : tyEq Tryd.prog 23 = some ((.int .i64) :: (.int .i64) :: (.str) :: []) := by kernel_rfl
@[go_sem] theorem fld23_0 : tyFld Tryd.prog 23 0 = some (0, 1, false) := by kernel_rfl
@[go_sem] theorem fld23_1 : tyFld Tryd.prog 23 1 = some (1, 1, false) := by kernel_rfl
@[go_sem] theorem fld23_2 : tyFld Tryd.prog 23 2 = some (2, 1, false) := by kernel_rfl
@[go_sem] theorem und24 : (Tryd.prog.underlying 24).isSome = true := by kernel_rfl
@[go_sem] theorem as24 : tyAS Tryd.prog 24 = some (false, 1) := by kernel_rfl
@[go_sem] theorem sl24 : tySl Tryd.prog 24 = none := by kernel_rfl
@[go_sem] theorem int24 : tyInt Tryd.prog 24 = none := by kernel_rfl
@[go_sem] theorem str24 : tyStr Tryd.prog 24 = false := by kernel_rfl
@[go_sem] theorem bool24 : tyBool Tryd.prog 24 = false := by kernel_rfl
@[go_sem] theorem z24 : tyZ Tryd.prog 24 = some ((.junk) :: []) := by kernel_rfl
@[go_sem] theorem und25 : (Tryd.prog.underlying 25).isSome = true := by kernel_rfl
@[go_sem] theorem as25 : tyAS Tryd.prog 25 = some (false, 1) := by kernel_rfl
@[go_sem] theorem sl25 : tySl Tryd.prog 25 = none := by kernel_rfl
@[go_sem] theorem int25 : tyInt Tryd.prog 25 = none := by kernel_rfl
@[go_sem] theorem str25 : tyStr Tryd.prog 25 = false := by kernel_rfl
@[go_sem] theorem bool25 : tyBool Tryd.prog 25 = false := by kernel_rfl
@[go_sem] theorem z25 : tyZ Tryd.prog 25 = some ((.junk) :: []) := by kernel_rfl
@[go_sem] theorem und26 : (Tryd.prog.underlying 26).isSome = true := by kernel_rfl
@[go_sem] theorem as26 : tyAS Tryd.prog 26 = some (true, 3) := by kernel_rfl
@[go_sem] theorem sl26 : tySl Tryd.prog 26 = none := by kernel_rfl
@[go_sem] theorem int26 : tyInt Tryd.prog 26 = none := by kernel_rfl
@[go_sem] theorem str26 : tyStr Tryd.prog 26 = false := by kernel_rfl
@[go_sem] theorem bool26 : tyBool Tryd.prog 26 = false := by kernel_rfl
@[go_sem] theorem z26 : tyZ Tryd.prog 26 = some ((.int .i64 (0)) :: (.int .i64 (0)) :: (.str ⟨#[]⟩) :: []) := by kernel_rfl
@[go_sem] theorem fs26 : tyFs Tryd.prog 26 = some ((0, 1) :: (1, 1) :: (2, 1) :: []) := by kernel_rfl
@[go_sem] theorem eq26 : tyEq Tryd.prog 26 = some ((.int .i64) :: (.int .i64) :: (.str) :: []) := by kernel_rfl
@[go_sem] theorem fld26_0 : tyFld Tryd.prog 26 0 = some (0, 1, false) := by kernel_rfl
@[go_sem] theorem fld26_1 : tyFld Tryd.prog 26 1 = some (1, 1, false) := by kernel_rfl
@[go_sem] theorem fld26_2 : tyFld Tryd.prog 26 2 = some (2, 1, false) := by kernel_rfl
@[go_sem] theorem und27 : (Tryd.prog.underlying 27).isSome = true := by kernel_rfl
@[go_sem] theorem as27 : tyAS Tryd.prog 27 = some (false, 1) := by kernel_rfl
@[go_sem] theorem sl27 : tySl Tryd.prog 27 = none := by kernel_rfl
@[go_sem] theorem int27 : tyInt Tryd.prog 27 = none := by kernel_rfl
@[go_sem] theorem str27 : tyStr Tryd.prog 27 = false := by kernel_rfl
@[go_sem] theorem bool27 : tyBool Tryd.prog 27 = false := by kernel_rfl
@[go_sem] theorem z27 : tyZ Tryd.prog 27 = some ((.junk) :: []) := by kernel_rfl
@[go_sem] theorem und28 : (Tryd.prog.underlying 28).isSome = true := by kernel_rfl
@[go_sem] theorem as28 : tyAS Tryd.prog 28 = some (false, 1) := by kernel_rfl
@[go_sem] theorem sl28 : tySl Tryd.prog 28 = none := by kernel_rfl
@[go_sem] theorem int28 : tyInt Tryd.prog 28 = none := by kernel_rfl
@[go_sem] theorem str28 : tyStr Tryd.prog 28 = false := by kernel_rfl
@[go_sem] theorem bool28 : tyBool Tryd.prog 28 = false := by kernel_rfl
@[go_sem] theorem z28 : tyZ Tryd.prog 28 = some ((.junk) :: []) := by kernel_rfl
@[go_sem] theorem und29 : (Tryd.prog.underlying 29).isSome = true := by kernel_rfl
@[go_sem] theorem as29 : tyAS Tryd.prog 29 = some (false, 1) := by kernel_rfl
@[go_sem] theorem sl29 : tySl Tryd.prog 29 = some (5, 1, 1) := by kernel_rfl
@[go_sem] theorem int29 : tyInt Tryd.prog 29 = none := by kernel_rfl
@[go_sem] theorem str29 : tyStr Tryd.prog 29 = false := by kernel_rfl
@[go_sem] theorem bool29 : tyBool Tryd.prog 29 = false := by kernel_rfl
@[go_sem] theorem z29 : tyZ Tryd.prog 29 = some ((.sl 0 true []) :: []) := by kernel_rfl
@[go_sem] theorem und30 : (Tryd.prog.underlying 30).isSome = true := by kernel_rfl
@[go_sem] theorem as30 : tyAS Tryd.prog 30 = some (false, 1) := by kernel_rfl
@[go_sem] theorem sl30 : tySl Tryd.prog 30 = none := by kernel_rfl
@[go_sem] theorem int30 : tyInt Tryd.prog 30 = none := by kernel_rfl
@[go_sem] theorem str30 : tyStr Tryd.prog 30 = false := by kernel_rfl
@[go_sem] theorem bool30 : tyBool Tryd.prog 30 = false := by kernel_rfl
@[go_sem] theorem z30 : tyZ Tryd.prog 30 = some ((.junk) :: []) := by kernel_rfl
@[go_sem] theorem und31 : (Tryd.prog.underlying 31).isSome = true := by kernel_rfl
@[go_sem] theorem as31 : tyAS Tryd.prog 31 = some (false, 1) := by kernel_rfl
@[go_sem] theorem sl31 : tySl Tryd.prog 31 = none := by kernel_rfl
@[go_sem] theorem int31 : tyInt Tryd.prog 31 = none := by kernel_rfl
@[go_sem] theorem str31 : tyStr Tryd.prog 31 = false := by kernel_rfl
@[go_sem] theorem bool31 : tyBool Tryd.prog 31 = false := by kernel_rfl
@[go_sem] theorem z31 : tyZ Tryd.prog 31 = some ((.junk) :: []) := by kernel_rfl
@[go_sem] theorem und32 : (Tryd.prog.underlying 32).isSome = true := by kernel_rfl
@[go_sem] theorem as32 : tyAS Tryd.prog 32 = some (false, 1) := by kernel_rfl
@[go_sem] theorem sl32 : tySl Tryd.prog 32 = none := by kernel_rfl
@[go_sem] theorem int32 : tyInt Tryd.prog 32 = none := by kernel_rfl
@[go_sem] theorem str32 : tyStr Tryd.prog 32 = false := by kernel_rfl
@[go_sem] theorem bool32 : tyBool Tryd.prog 32 = false := by kernel_rfl
@[go_sem] theorem z32 : tyZ Tryd.prog 32 = some ((.junk) :: []) := by kernel_rfl
@[go_sem] theorem und33 : (Tryd.prog.underlying 33).isSome = true := by kernel_rfl
@[go_sem] theorem as33 : tyAS Tryd.prog 33 = some (false, 1) := by kernel_rfl
@[go_sem] theorem sl33 : tySl Tryd.prog 33 = none := by kernel_rfl
@[go_sem] theorem int33 : tyInt Tryd.prog 33 = none := by kernel_rfl
@[go_sem] theorem str33 : tyStr Tryd.prog 33 = false := by kernel_rfl
@[go_sem] theorem bool33 : tyBool Tryd.prog 33 = false := by kernel_rfl
@[go_sem] theorem z33 : tyZ Tryd.prog 33 = some ((.junk) :: []) := by kernel_rfl
@[go_sem] theorem und34 : (Tryd.prog.underlying 34).isSome = true := by kernel_rfl
@[go_sem] theorem as34 : tyAS Tryd.prog 34 = some (false, 1) := by kernel_rfl
@[go_sem] theorem sl34 : tySl Tryd.prog 34 = none := by kernel_rfl
@[go_sem] theorem int34 : tyInt Tryd.prog 34 = none := by kernel_rfl
@[go_sem] theorem str34 : tyStr Tryd.prog 34 = false := by kernel_rfl
@[go_sem] theorem bool34 : tyBool Tryd.prog 34 = false := by kernel_rfl
@[go_sem] theorem z34 : tyZ Tryd.prog 34 = some ((.junk) :: []) := by kernel_rfl
@[go_sem] theorem und35 : (Tryd.prog.underlying 35).isSome = true := by kernel_rfl
@[go_sem] theorem as35 : tyAS Tryd.prog 35 = some (false, 1) := by kernel_rfl
@[go_sem] theorem sl35 : tySl Tryd.prog 35 = none := by kernel_rfl
@[go_sem] theorem int35 : tyInt Tryd.prog 35 = none := by kernel_rfl
@[go_sem] theorem str35 : tyStr Tryd.prog 35 = false := by kernel_rfl
@[go_sem] theorem bool35 : tyBool Tryd.prog 35 = false := by kernel_rfl
@[go_sem] theorem z35 : tyZ Tryd.prog 35 = some ((.junk) :: []) := by kernel_rfl
@[go_sem] theorem und36 : (Tryd.prog.underlying 36).isSome = true := by kernel_rfl
@[go_sem] theorem as36 : tyAS Tryd.prog 36 = some (false, 1) := by kernel_rfl
@[go_sem] theorem sl36 : tySl Tryd.prog 36 = some (9, 1, 16) := by kernel_rfl
@[go_sem] theorem int36 : tyInt Tryd.prog 36 = none := by kernel_rfl
@[go_sem] theorem str36 : tyStr Tryd.prog 36 = false := by kernel_rfl
@[go_sem] theorem bool36 : tyBool Tryd.prog 36 = false := by kernel_rfl
@[go_sem] theorem z36 : tyZ Tryd.prog 36 = some ((.sl 0 true []) :: []) := by kernel_rfl
@[go_sem] theorem und37 : (Tryd.prog.underlying 37).isSome = true := by kernel_rfl
@[go_sem] theorem as37 : tyAS Tryd.prog 37 = some (false, 1) := by kernel_rfl
@[go_sem] theorem sl37 : tySl Tryd.prog 37 = none := by kernel_rfl
@[go_sem] theorem int37 : tyInt Tryd.prog 37 = none := by kernel_rfl
@[go_sem] theorem str37 : tyStr Tryd.prog 37 = false := by kernel_rfl
@[go_sem] theorem bool37 : tyBool Tryd.prog 37 = false := by kernel_rfl
@[go_sem] theorem z37 : tyZ Tryd.prog 37 = some ((.junk) :: []) := by kernel_rfl
@[go_sem] theorem und38 : (Tryd.prog.underlying 38).isSome = true := by kernel_rfl
@[go_sem] theorem as38 : tyAS Tryd.prog 38 = some (false, 1) := by kernel_rfl
@[go_sem] theorem sl38 : tySl Tryd.prog 38 = none := by kernel_rfl
@[go_sem] theorem int38 : tyInt Tryd.prog 38 = none := by kernel_rfl
@[go_sem] theorem str38 : tyStr Tryd.prog 38 = false := by kernel_rfl
@[go_sem] theorem bool38 : tyBool Tryd.prog 38 = false := by kernel_rfl
@[go_sem] theorem z38 : tyZ Tryd.prog 38 = some ((.junk) :: []) := by kernel_rfl
@[go_sem] theorem und39 : (Tryd.prog.underlying 39).isSome = true := by kernel_rfl
@[go_sem] theorem as39 : tyAS Tryd.prog 39 = some (false, 1) := by kernel_rfl
@[go_sem] theorem sl39 : tySl Tryd.prog 39 = none := by kernel_rfl
@[go_sem] theorem int39 : tyInt Tryd.prog 39 = none := by kernel_rfl
@[go_sem] theorem str39 : tyStr Tryd.prog 39 = false := by kernel_rfl
@[go_sem] theorem bool39 : tyBool Tryd.prog 39 = false := by kernel_rfl
@[go_sem] theorem z39 : tyZ Tryd.prog 39 = some ((.nilp) :: []) := by kernel_rfl
@[go_sem] theorem und40 : (Tryd.prog.underlying 40).isSome = true := by kernel_rfl
@[go_sem] theorem as40 : tyAS Tryd.prog 40 = some (false, 1) := by kernel_rfl
@[go_sem] theorem sl40 : tySl Tryd.prog 40 = none := by kernel_rfl
@[go_sem] theorem int40 : tyInt Tryd.prog 40 = none := by kernel_rfl
@[go_sem] theorem str40 : tyStr Tryd.prog 40 = false := by kernel_rfl
@[go_sem] theorem bool40 : tyBool Tryd.prog 40 = false := by kernel_rfl
@[go_sem] theorem z40 : tyZ Tryd.prog 40 = some ((.junk) :: []) := by kernel_rfl
@[go_sem] theorem und41 : (Tryd.prog.underlying 41).isSome = true := by kernel_rfl
@[go_sem] theorem as41 : tyAS Tryd.prog 41 = some (false, 1) := by kernel_rfl
@[go_sem] theorem sl41 : tySl Tryd.prog 41 = none := by kernel_rfl
@[go_sem] theorem int41 : tyInt Tryd.prog 41 = none := by kernel_rfl
@[go_sem] theorem str41 : tyStr Tryd.prog 41 = false := by kernel_rfl
@[go_sem] theorem bool41 : tyBool Tryd.prog 41 = false := by kernel_rfl
@[go_sem] theorem z41 : tyZ Tryd.prog 41 = some ((.junk) :: []) := by kernel_rfl
@[go_sem] theorem und42 : (Tryd.prog.underlying 42).isSome = true := by kernel_rfl
@[go_sem] theorem as42 : tyAS Tryd.prog 42 = some (false, 1) := by kernel_rfl
@[go_sem] theorem sl42 : tySl Tryd.prog 42 = none := by kernel_rfl
@[go_sem] theorem int42 : tyInt Tryd.prog 42 = none := by kernel_rfl
@[go_sem] theorem str42 : tyStr Tryd.prog 42 = false := by kernel_rfl
@[go_sem] theorem bool42 : tyBool Tryd.prog 42 = false := by kernel_rfl
@[go_sem] theorem z42 : tyZ Tryd.prog 42 = some ((.junk) :: []) := by kernel_rfl
@[go_sem] theorem und43 : (Tryd.prog.underlying 43).isSome = true := by kernel_rfl
@[go_sem] theorem as43 : tyAS Tryd.prog 43 = some (false, 1) := by kernel_rfl
@[go_sem] theorem sl43 : tySl Tryd.prog 43 = none := by kernel_rfl
@[go_sem] theorem int43 : tyInt Tryd.prog 43 = none := by kernel_rfl
@[go_sem] theorem str43 : tyStr Tryd.prog 43 = false := by kernel_rfl
@[go_sem] theorem bool43 : tyBool Tryd.prog 43 = false := by kernel_rfl
@[go_sem] theorem z43 : tyZ Tryd.prog 43 = some ((.junk) :: []) := by kernel_rfl
@[go_sem] theorem und44 : (Tryd.prog.underlying 44).isSome = true := by kernel_rfl
@[go_sem] theorem as44 : tyAS Tryd.prog 44 = some (false, 1) := by kernel_rfl
@[go_sem] theorem sl44 : tySl Tryd.prog 44 = none := by kernel_rfl
@[go_sem] theorem int44 : tyInt Tryd.prog 44 = none := by kernel_rfl
@[go_sem] theorem str44 : tyStr Tryd.prog 44 = false := by kernel_rfl
@[go_sem] theorem bool44 : tyBool Tryd.prog 44 = false := by kernel_rfl
@[go_sem] theorem z44 : tyZ Tryd.prog 44 = some ((.junk) :: []) := by kernel_rfl
@[go_sem] theorem und45 : (Tryd.prog.underlying 45).isSome = true := by kernel_rfl
@[go_sem] theorem as45 : tyAS Tryd.prog 45 = some (false, 1) := by kernel_rfl
@[go_sem] theorem sl45 : tySl Tryd.prog 45 = none := by kernel_rfl
@[go_sem] theorem int45 : tyInt Tryd.prog 45 = none := by kernel_rfl
@[go_sem] theorem str45 : tyStr Tryd.prog 45 = false := by kernel_rfl
@[go_sem] theorem bool45 : tyBool Tryd.prog 45 = false := by kernel_rfl
@[go_sem] theorem z45 : tyZ Tryd.prog 45 = some ((.junk) :: []) := by kernel_rfl
@[go_sem] theorem und46 : (Tryd.prog.underlying 46).isSome = true := by kernel_rfl
@[go_sem] theorem as46 : tyAS Tryd.prog 46 = some (false, 1) := by kernel_rfl
@[go_sem] theorem sl46 : tySl Tryd.prog 46 = some (3, 1, 8) := by kernel_rfl
@[go_sem] theorem int46 : tyInt Tryd.prog 46 = none := by kernel_rfl
@[go_sem] theorem str46 : tyStr Tryd.prog 46 = false := by kernel_rfl
@[go_sem] theorem bool46 : tyBool Tryd.prog 46 = false := by kernel_rfl
@[go_sem] theorem z46 : tyZ Tryd.prog 46 = some ((.sl 0 true []) :: []) := by kernel_rfl
@[go_sem] theorem und47 : (Tryd.prog.underlying 47).isSome = true := by kernel_rfl
@[go_sem] theorem as47 : tyAS Tryd.prog 47 = some (false, 1) := by kernel_rfl
@[go_sem] theorem sl47 : tySl Tryd.prog 47 = none := by kernel_rfl
@[go_sem] theorem int47 : tyInt Tryd.prog 47 = none := by kernel_rfl
@[go_sem] theorem str47 : tyStr Tryd.prog 47 = false := by kernel_rfl
@[go_sem] theorem bool47 : tyBool Tryd.prog 47 = false := by kernel_rfl
@[go_sem] theorem z47 : tyZ Tryd.prog 47 = some ((.junk) :: []) := by kernel_rfl
@[go_sem] theorem und48 : (Tryd.prog.underlying 48).isSome = true := by kernel_rfl
@[go_sem] theorem as48 : tyAS Tryd.prog 48 = some (true, 2) := by kernel_rfl
@[go_sem] theorem sl48 : tySl Tryd.prog 48 = none := by kernel_rfl
@[go_sem] theorem int48 : tyInt Tryd.prog 48 = none := by kernel_rfl
@[go_sem] theorem str48 : tyStr Tryd.prog 48 = false := by kernel_rfl
@[go_sem] theorem bool48 : tyBool Tryd.prog 48 = false := by kernel_rfl
@[go_sem] theorem z48 : tyZ Tryd.prog 48 = some ((.sl 0 true []) :: (.int .i64 (0)) :: []) := by kernel_rfl
@[go_sem] theorem fs48 : tyFs Tryd.prog 48 = some ((0, 1) :: (1, 1) :: []) := by kernel_rfl
@[go_sem] theorem fld48_0 : tyFld Tryd.prog 48 0 = some (0, 1, false) := by kernel_rfl
@[go_sem] theorem fld48_1 : tyFld Tryd.prog 48 1 = some (1, 1, false) := by kernel_rfl
@[go_sem] theorem und49 : (Tryd.prog.underlying 49).isSome = true := by kernel_rfl
@[go_sem] theorem as49 : tyAS Tryd.prog 49 = some (true, 2) := by kernel_rfl
@[go_sem] theorem sl49 : tySl Tryd.prog 49 = none := by kernel_rfl
@[go_sem] theorem int49 : tyInt Tryd.prog 49 = none := by kernel_rfl
@[go_sem] theorem str49 : tyStr Tryd.prog 49 = false := by kernel_rfl
@[go_sem] theorem bool49 : tyBool Tryd.prog 49 = false := by kernel_rfl
@[go_sem] theorem z49 : tyZ Tryd.prog 49 = some ((.sl 0 true []) :: (.int .i64 (0)) :: []) := by kernel_rfl
@[go_sem] theorem fs49 : tyFs Tryd.prog 49 = some ((0, 1) :: (1, 1) :: []) := by kernel_rfl
@[go_sem] theorem fld49_0 : tyFld Tryd.prog 49 0 = some (0, 1, false) := by kernel_rfl
@[go_sem] theorem fld49_1 : tyFld Tryd.prog 49 1 = some (1, 1, false) := by kernel_rfl
@[go_sem] theorem und50 : (Tryd.prog.underlying 50).isSome = true := by kernel_rfl
@[go_sem] theorem as50 : tyAS Tryd.prog 50 = some (false, 1) := by kernel_rfl
@[go_sem] theorem sl50 : tySl Tryd.prog 50 = none := by kernel_rfl
@[go_sem] theorem int50 : tyInt Tryd.prog 50 = some (.u64) := by kernel_rfl
@[go_sem] theorem str50 : tyStr Tryd.prog 50 = false := by kernel_rfl
@[go_sem] theorem bool50 : tyBool Tryd.prog 50 = false := by kernel_rfl
@[go_sem] theorem z50 : tyZ Tryd.prog 50 = some ((.int .u64 (0)) :: []) := by kernel_rfl
@[go_sem] theorem und51 : (Tryd.prog.underlying 51).isSome = true := by kernel_rfl
@[go_sem] theorem as51 : tyAS Tryd.prog 51 = some (false, 1) := by kernel_rfl
@[go_sem] theorem sl51 : tySl Tryd.prog 51 = none := by kernel_rfl
@[go_sem] theorem int51 : tyInt Tryd.prog 51 = none := by kernel_rfl
@[go_sem] theorem str51 : tyStr Tryd.prog 51 = false := by kernel_rfl
@[go_sem] theorem bool51 : tyBool Tryd.prog 51 = false := by kernel_rfl
@[go_sem] theorem z51 : tyZ Tryd.prog 51 = some ((.junk) :: []) := by kernel_rfl
@[go_sem] theorem und52 : (Tryd.prog.underlying 52).isSome = true := by kernel_rfl
@[go_sem] theorem as52 : tyAS Tryd.prog 52 = some (true, 24) := by kernel_rfl
@[go_sem] theorem sl52 : tySl Tryd.prog 52 = none := by kernel_rfl
@[go_sem] theorem int52 : tyInt Tryd.prog 52 = none := by kernel_rfl
@[go_sem] theorem str52 : tyStr Tryd.prog 52 = false := by kernel_rfl
@[go_sem] theorem bool52 : tyBool Tryd.prog 52 = false := by kernel_rfl
@[go_sem] theorem z52 : tyZ Tryd.prog 52 = some ((.int .u8 (0)) :: (.int .u8 (0)) :: (.int .u8 (0)) :: (.int .u8 (0)) :: (.int .u8 (0)) :: (.int .u8 (0)) :: (.int .u8 (0)) :: (.int .u8 (0)) :: (.int .u8 (0)) :: (.int .u8 (0)) :: (.int .u8 (0)) :: (.int .u8 (0)) :: (.int .u8 (0)) :: (.int .u8 (0)) :: (.int .u8 (0)) :: (.int .u8 (0)) :: (.int .u8 (0)) :: (.int .u8 (0)) :: (.int .u8 (0)) :: (.int .u8 (0)) :: (.int .u8 (0)) :: (.int .u8 (0)) :: (.int .u8 (0)) :: (.int .u8 (0)) :: []) := by kernel_rfl
@[go_sem] theorem und53 : (Tryd.prog.underlying 53).isSome = true := by kernel_rfl
@[go_sem] theorem as53 : tyAS Tryd.prog 53 = some (false, 1) := by kernel_rfl
@[go_sem] theorem sl53 : tySl Tryd.prog 53 = none := by kernel_rfl
@[go_sem] theorem int53 : tyInt Tryd.prog 53 = some (.u64) := by kernel_rfl
@[go_sem] theorem str53 : tyStr Tryd.prog 53 = false := by kernel_rfl
@[go_sem] theorem bool53 : tyBool Tryd.prog 53 = false := by kernel_rfl
@[go_sem] theorem z53 : tyZ Tryd.prog 53 = some ((.int .u64 (0)) :: []) := by kernel_rfl
@[go_sem] theorem und54 : (Tryd.prog.underlying 54).isSome = true := by kernel_rfl
@[go_sem] theorem as54 : tyAS Tryd.prog 54 = some (false, 1) := by kernel_rfl
@[go_sem] theorem sl54 : tySl Tryd.prog 54 = none := by kernel_rfl
@[go_sem] theorem int54 : tyInt Tryd.prog 54 = none := by kernel_rfl
@[go_sem] theorem str54 : tyStr Tryd.prog 54 = false := by kernel_rfl
@[go_sem] theorem bool54 : tyBool Tryd.prog 54 = false := by kernel_rfl
@[go_sem] theorem z54 : tyZ Tryd.prog 54 = some ((.junk) :: []) := by kernel_rfl
@[go_sem] theorem und55 : (Tryd.prog.underlying 55).isSome = true := by kernel_rfl
@[go_sem] theorem as55 : tyAS Tryd.prog 55 = some (false, 1) := by kernel_rfl
@[go_sem] theorem sl55 : tySl Tryd.prog 55 = none := by kernel_rfl
@[go_sem] theorem int55 : tyInt Tryd.prog 55 = none := by kernel_rfl
@[go_sem] theorem str55 : tyStr Tryd.prog 55 = false := by kernel_rfl
@[go_sem] theorem bool55 : tyBool Tryd.prog 55 = false := by kernel_rfl
@[go_sem] theorem z55 : tyZ Tryd.prog 55 = some ((.junk) :: []) := by kernel_rfl
@[go_sem] theorem und56 : (Tryd.prog.underlying 56).isSome = true := by kernel_rfl
@[go_sem] theorem as56 : tyAS Tryd.prog 56 = some (false, 1) := by kernel_rfl
@[go_sem] theorem sl56 : tySl Tryd.prog 56 = none := by kernel_rfl
@[go_sem] theorem int56 : tyInt Tryd.prog 56 = none := by kernel_rfl
@[go_sem] theorem str56 : tyStr Tryd.prog 56 = false := by kernel_rfl
@[go_sem] theorem bool56 : tyBool Tryd.prog 56 = false := by kernel_rfl
@[go_sem] theorem und57 : (Tryd.prog.underlying 57).isSome = true := by kernel_rfl
@[go_sem] theorem as57 : tyAS Tryd.prog 57 = some (false, 1) := by kernel_rfl
@[go_sem] theorem sl57 : tySl Tryd.prog 57 = none := by kernel_rfl
@[go_sem] theorem int57 : tyInt Tryd.prog 57 = none := by kernel_rfl
@[go_sem] theorem str57 : tyStr Tryd.prog 57 = false := by kernel_rfl
@[go_sem] theorem bool57 : tyBool Tryd.prog 57 = false := by kernel_rfl
@[go_sem] theorem z57 : tyZ Tryd.prog 57 = some ((.junk) :: []) := by kernel_rfl
@[go_sem] theorem und58 : (Tryd.prog.underlying 58).isSome = true := by kernel_rfl
@[go_sem] theorem as58 : tyAS Tryd.prog 58 = some (false, 1) := by kernel_rfl
@[go_sem] theorem sl58 : tySl Tryd.prog 58 = none := by kernel_rfl
@[go_sem] theorem int58 : tyInt Tryd.prog 58 = none := by kernel_rfl
@[go_sem] theorem str58 : tyStr Tryd.prog 58 = false := by kernel_rfl
@[go_sem] theorem bool58 : tyBool Tryd.prog 58 = false := by kernel_rfl
@[go_sem] theorem z58 : tyZ Tryd.prog 58 = some ((.junk) :: []) := by kernel_rfl
@[go_sem] theorem und59 : (Tryd.prog.underlying 59).isSome = true := by kernel_rfl
@[go_sem] theorem as59 : tyAS Tryd.prog 59 = some (true, 20) := by kernel_rfl
@[go_sem] theorem sl59 : tySl Tryd.prog 59 = none := by kernel_rfl
@[go_sem] theorem int59 : tyInt Tryd.prog 59 = none := by kernel_rfl
@[go_sem] theorem str59 : tyStr Tryd.prog 59 = false := by kernel_rfl
@[go_sem] theorem bool59 : tyBool Tryd.prog 59 = false := by kernel_rfl
@[go_sem] theorem z59 : tyZ Tryd.prog 59 = some ((.int .u64 (0)) :: (.int .u64 (0)) :: (.int .u64 (0)) :: (.int .u64 (0)) :: (.int .u64 (0)) :: (.int .u64 (0)) :: (.int .u64 (0)) :: (.int .u64 (0)) :: (.int .u64 (0)) :: (.int .u64 (0)) :: (.int .u64 (0)) :: (.int .u64 (0)) :: (.int .u64 (0)) :: (.int .u64 (0)) :: (.int .u64 (0)) :: (.int .u64 (0)) :: (.int .u64 (0)) :: (.int .u64 (0)) :: (.int .u64 (0)) :: (.int .u64 (0)) :: []) := by kernel_rfl
@[go_sem] theorem und60 : (Tryd.prog.underlying 60).isSome = true := by kernel_rfl
@[go_sem] theorem as60 : tyAS Tryd.prog 60 = some (false, 1) := by kernel_rfl
@[go_sem] theorem sl60 : tySl Tryd.prog 60 = none := by kernel_rfl
@[go_sem] theorem int60 : tyInt Tryd.prog 60 = some (.u32) := by kernel_rfl
@[go_sem] theorem str60 : tyStr Tryd.prog 60 = false := by kernel_rfl
@[go_sem] theorem bool60 : tyBool Tryd.prog 60 = false := by kernel_rfl
@[go_sem] theorem z60 : tyZ Tryd.prog 60 = some ((.int .u32 (0)) :: []) := by kernel_rfl
@[go_sem] theorem und61 : (Tryd.prog.underlying 61).isSome = true := by kernel_rfl
@[go_sem] theorem as61 : tyAS Tryd.prog 61 = some (true, 65) := by kernel_rfl
@[go_sem] theorem sl61 : tySl Tryd.prog 61 = none := by kernel_rfl
@[go_sem] theorem int61 : tyInt Tryd.prog 61 = none := by kernel_rfl
@[go_sem] theorem str61 : tyStr Tryd.prog 61 = false := by kernel_rfl
@[go_sem] theorem bool61 : tyBool Tryd.prog 61 = false := by kernel_rfl
@[go_sem] theorem z61 : tyZ Tryd.prog 61 = some ((.int .u8 (0)) :: (.int .u8 (0)) :: (.int .u8 (0)) :: (.int .u8 (0)) :: (.int .u8 (0)) :: (.int .u8 (0)) :: (.int .u8 (0)) :: (.int .u8 (0)) :: (.int .u8 (0)) :: (.int .u8 (0)) :: (.int .u8 (0)) :: (.int .u8 (0)) :: (.int .u8 (0)) :: (.int .u8 (0)) :: (.int .u8 (0)) :: (.int .u8 (0)) :: (.int .u8 (0)) :: (.int .u8 (0)) :: (.int .u8 (0)) :: (.int .u8 (0)) :: (.int .u8 (0)) :: (.int .u8 (0)) :: (.int .u8 (0)) :: (.int .u8 (0)) :: (.int .u8 (0)) :: (.int .u8 (0)) :: (.int .u8 (0)) :: (.int .u8 (0)) :: (.int .u8 (0)) :: (.int .u8 (0)) :: (.int .u8 (0)) :: (.int .u8 (0)) :: (.int .u8 (0)) :: (.int .u8 (0)) :: (.int .u8 (0)) :: (.int .u8 (0)) :: (.int .u8 (0)) :: (.int .u8 (0)) :: (.int .u8 (0)) :: (.int .u8 (0)) :: (.int .u8 (0)) :: (.int .u8 (0)) :: (.int .u8 (0)) :: (.int .u8 (0)) :: (.int .u8 (0)) :: (.int .u8 (0)) :: (.int .u8 (0)) :: (.int .u8 (0)) :: (.int .u8 (0)) :: (.int .u8 (0)) :: (.int .u8 (0)) :: (.int .u8 (0)) :: (.int .u8 (0)) :: (.int .u8 (0)) :: (.int .u8 (0)) :: (.int .u8 (0)) :: (.int .u8 (0)) :: (.int .u8 (0)) :: (.int .u8 (0)) :: (.int .u8 (0)) :: (.int .u8 (0)) :: (.int .u8 (0)) :: (.int .u8 (0)) :: (.int .u8 (0)) :: (.int .u8 (0)) :: []) := by kernel_rfl
@[go_sem] theorem und62 : (Tryd.prog.underlying 62).isSome = true := by kernel_rfl
@[go_sem] theorem as62 : tyAS Tryd.prog 62 = some (false, 1) := by kernel_rfl
@[go_sem] theorem sl62 : tySl Tryd.prog 62 = none := by kernel_rfl
@[go_sem] theorem int62 : tyInt Tryd.prog 62 = none := by kernel_rfl
@[go_sem] theorem str62 : tyStr Tryd.prog 62 = false := by kernel_rfl
@[go_sem] theorem bool62 : tyBool Tryd.prog 62 = false := by kernel_rfl
@[go_sem] theorem z62 : tyZ Tryd.prog 62 = some ((.junk) :: []) := by kernel_rfl
@[go_sem] theorem und63 : (Tryd.prog.underlying 63).isSome = true := by kernel_rfl
@[go_sem] theorem as63 : tyAS Tryd.prog 63 = some (false, 1) := by kernel_rfl
@[go_sem] theorem sl63 : tySl Tryd.prog 63 = none := by kernel_rfl
@[go_sem] theorem int63 : tyInt Tryd.prog 63 = none := by kernel_rfl
@[go_sem] theorem str63 : tyStr Tryd.prog 63 = false := by kernel_rfl
@[go_sem] theorem bool63 : tyBool Tryd.prog 63 = false := by kernel_rfl
@[go_sem] theorem z63 : tyZ Tryd.prog 63 = some ((.junk) :: []) := by kernel_rfl
@[go_sem] theorem und64 : (Tryd.prog.underlying 64).isSome = true := by kernel_rfl
@[go_sem] theorem as64 : tyAS Tryd.prog 64 = some (true, 32) := by kernel_rfl
@[go_sem] theorem sl64 : tySl Tryd.prog 64 = none := by kernel_rfl
@[go_sem] theorem int64 : tyInt Tryd.prog 64 = none := by kernel_rfl
@[go_sem] theorem str64 : tyStr Tryd.prog 64 = false := by kernel_rfl
@[go_sem] theorem bool64 : tyBool Tryd.prog 64 = false := by kernel_rfl
@[go_sem] theorem z64 : tyZ Tryd.prog 64 = some ((.int .u8 (0)) :: (.int .u8 (0)) :: (.int .u8 (0)) :: (.int .u8 (0)) :: (.int .u8 (0)) :: (.int .u8 (0)) :: (.int .u8 (0)) :: (.int .u8 (0)) :: (.int .u8 (0)) :: (.int .u8 (0)) :: (.int .u8 (0)) :: (.int .u8 (0)) :: (.int .u8 (0)) :: (.int .u8 (0)) :: (.int .u8 (0)) :: (.int .u8 (0)) :: (.int .u8 (0)) :: (.int .u8 (0)) :: (.int .u8 (0)) :: (.int .u8 (0)) :: (.int .u8 (0)) :: (.int .u8 (0)) :: (.int .u8 (0)) :: (.int .u8 (0)) :: (.int .u8 (0)) :: (.int .u8 (0)) :: (.int .u8 (0)) :: (.int .u8 (0)) :: (.int .u8 (0)) :: (.int .u8 (0)) :: (.int .u8 (0)) :: (.int .u8 (0)) :: []) := by kernel_rfl
@[go_sem] theorem und65 : (Tryd.prog.underlying 65).isSome = true := by kernel_rfl
@[go_sem] theorem as65 : tyAS Tryd.prog 65 = some (true, 64) := by kernel_rfl
@[go_sem] theorem sl65 : tySl Tryd.prog 65 = none := by kernel_rfl
@[go_sem] theorem int65 : tyInt Tryd.prog 65 = none := by kernel_rfl
@[go_sem] theorem str65 : tyStr Tryd.prog 65 = false := by kernel_rfl
@[go_sem] theorem bool65 : tyBool Tryd.prog 65 = false := by kernel_rfl
@[go_sem] theorem z65 : tyZ Tryd.prog 65 = some ((.int .u8 (0)) :: (.int .u8 (0)) :: (.int .u8 (0)) :: (.int .u8 (0)) :: (.int .u8 (0)) :: (.int .u8 (0)) :: (.int .u8 (0)) :: (.int .u8 (0)) :: (.int .u8 (0)) :: (.int .u8 (0)) :: (.int .u8 (0)) :: (.int .u8 (0)) :: (.int .u8 (0)) :: (.int .u8 (0)) :: (.int .u8 (0)) :: (.int .u8 (0)) :: (.int .u8 (0)) :: (.int .u8 (0)) :: (.int .u8 (0)) :: (.int .u8 (0)) :: (.int .u8 (0)) :: (.int .u8 (0)) :: (.int .u8 (0)) :: (.int .u8 (0)) :: (.int .u8 (0)) :: (.int .u8 (0)) :: (.int .u8 (0)) :: (.int .u8 (0)) :: (.int .u8 (0)) :: (.int .u8 (0)) :: (.int .u8 (0)) :: (.int .u8 (0)) :: (.int .u8 (0)) :: (.int .u8 (0)) :: (.int .u8 (0)) :: (.int .u8 (0)) :: (.int .u8 (0)) :: (.int .u8 (0)) :: (.int .u8 (0)) :: (.int .u8 (0)) :: (.int .u8 (0)) :: (.int .u8 (0)) :: (.int .u8 (0)) :: (.int .u8 (0)) :: (.int .u8 (0)) :: (.int .u8 (0)) :: (.int .u8 (0)) :: (.int .u8 (0)) :: (.int .u8 (0)) :: (.int .u8 (0)) :: (.int .u8 (0)) :: (.int .u8 (0)) :: (.int .u8 (0)) :: (.int .u8 (0)) :: (.int .u8 (0)) :: (.int .u8 (0)) :: (.int .u8 (0)) :: (.int .u8 (0)) :: (.int .u8 (0)) :: (.int .u8 (0)) :: (.int .u8 (0)) :: (.int .u8 (0)) :: (.int .u8 (0)) :: (.int .u8 (0)) :: []) := by kernel_rfl
@[go_sem] theorem und66 : (Tryd.prog.underlying 66).isSome = true := by kernel_rfl
@[go_sem] theorem as66 : tyAS Tryd.prog 66 = some (false, 1) := by kernel_rfl
@[go_sem] theorem sl66 : tySl Tryd.prog 66 = none := by kernel_rfl
@[go_sem] theorem int66 : tyInt Tryd.prog 66 = none := by kernel_rfl
@[go_sem] theorem str66 : tyStr Tryd.prog 66 = false := by kernel_rfl
@[go_sem] theorem bool66 : tyBool Tryd.prog 66 = false := by kernel_rfl
@[go_sem] theorem z66 : tyZ Tryd.prog 66 = some ((.junk) :: []) := by kernel_rfl
@[go_sem] theorem und67 : (Tryd.prog.underlying 67).isSome = true := by kernel_rfl
@[go_sem] theorem as67 : tyAS Tryd.prog 67 = some (true, 4) := by kernel_rfl
@[go_sem] theorem sl67 : tySl Tryd.prog 67 = none := by kernel_rfl
@[go_sem] theorem int67 : tyInt Tryd.prog 67 = none := by kernel_rfl
@[go_sem] theorem str67 : tyStr Tryd.prog 67 = false := by kernel_rfl
@[go_sem] theorem bool67 : tyBool Tryd.prog 67 = false := by kernel_rfl
@[go_sem] theorem z67 : tyZ Tryd.prog 67 = some ((.nilp) :: (.nilp) :: (.nilp) :: (.str ⟨#[]⟩) :: []) := by kernel_rfl
@[go_sem] theorem fs67 : tyFs Tryd.prog 67 = some ((0, 1) :: (1, 1) :: (2, 1) :: (3, 1) :: []) := by kernel_rfl
@[go_sem] theorem fld67_0 : tyFld Tryd.prog 67 0 = some (0, 1, false) := by kernel_rfl
@[go_sem] theorem fld67_1 : tyFld Tryd.prog 67 1 = some (1, 1, false) := by kernel_rfl
@[go_sem] theorem fld67_2 : tyFld Tryd.prog 67 2 = some (2, 1, false) := by kernel_rfl
@[go_sem] theorem fld67_3 : tyFld Tryd.prog 67 3 = some (3, 1, false) := by kernel_rfl
@[go_sem] theorem und68 : (Tryd.prog.underlying 68).isSome = true := by kernel_rfl
@[go_sem] theorem as68 : tyAS Tryd.prog 68 = some (true, 4) := by kernel_rfl
@[go_sem] theorem sl68 : tySl Tryd.prog 68 = none := by kernel_rfl
@[go_sem] theorem int68 : tyInt Tryd.prog 68 = none := by kernel_rfl
@[go_sem] theorem str68 : tyStr Tryd.prog 68 = false := by kernel_rfl
@[go_sem] theorem bool68 : tyBool Tryd.prog 68 = false := by kernel_rfl
@[go_sem] theorem z68 : tyZ Tryd.prog 68 = some ((.nilp) :: (.nilp) :: (.nilp) :: (.str ⟨#[]⟩) :: []) := by kernel_rfl
@[go_sem] theorem fs68 : tyFs Tryd.prog 68 = some ((0, 1) :: (1, 1) :: (2, 1) :: (3, 1) :: []) := by kernel_rfl
@[go_sem] theorem fld68_0 : tyFld Tryd.prog 68 0 = some (0, 1, false) := by kernel_rfl
@[go_sem] theorem fld68_1 : tyFld Tryd.prog 68 1 = some (1, 1, false) := by kernel_rfl
@[go_sem] theorem fld68_2 : tyFld Tryd.prog 68 2 = some (2, 1, false) := by kernel_rfl
@[go_sem] theorem fld68_3 : tyFld Tryd.prog 68 3 = some (3, 1, false) := by kernel_rfl
@[go_sem] theorem und69 : (Tryd.prog.underlying 69).isSome = true := by kernel_rfl
@[go_sem] theorem as69 : tyAS Tryd.prog 69 = some (true, 0) := by kernel_rfl
@[go_sem] theorem sl69 : tySl Tryd.prog 69 = none := by kernel_rfl
@[go_sem] theorem int69 : tyInt Tryd.prog 69 = none := by kernel_rfl
@[go_sem] theorem str69 : tyStr Tryd.prog 69 = false := by kernel_rfl
@[go_sem] theorem bool69 : tyBool Tryd.prog 69 = false := by kernel_rfl
@[go_sem] theorem z69 : tyZ Tryd.prog 69 = some ([]) := by kernel_rfl
@[go_sem] theorem und70 : (Tryd.prog.underlying 70).isSome = true := by kernel_rfl
@[go_sem] theorem as70 : tyAS Tryd.prog 70 = some (true, 0) := by kernel_rfl
@[go_sem] theorem sl70 : tySl Tryd.prog 70 = none := by kernel_rfl
@[go_sem] theorem int70 : tyInt Tryd.prog 70 = none := by kernel_rfl
@[go_sem] theorem str70 : tyStr Tryd.prog 70 = false := by kernel_rfl
@[go_sem] theorem bool70 : tyBool Tryd.prog 70 = false := by kernel_rfl
@[go_sem] theorem z70 : tyZ Tryd.prog 70 = some ([]) := by kernel_rfl
@[go_sem] theorem fs70 : tyFs Tryd.prog 70 = some ((0, 0) :: []) := by kernel_rfl
@[go_sem] theorem und71 : (Tryd.prog.underlying 71).isSome = true := by kernel_rfl
@[go_sem] theorem as71 : tyAS Tryd.prog 71 = some (true, 0) := by kernel_rfl
@[go_sem] theorem sl71 : tySl Tryd.prog 71 = none := by kernel_rfl
@[go_sem] theorem int71 : tyInt Tryd.prog 71 = none := by kernel_rfl
@[go_sem] theorem str71 : tyStr Tryd.prog 71 = false := by kernel_rfl
@[go_sem] theorem bool71 : tyBool Tryd.prog 71 = false := by kernel_rfl
@[go_sem] theorem z71 : tyZ Tryd.prog 71 = some ([]) := by kernel_rfl
@[go_sem] theorem fs71 : tyFs Tryd.prog 71 = some ((0, 0) :: []) := by kernel_rfl
@[go_sem] theorem und72 : (Tryd.prog.underlying 72).isSome = true := by kernel_rfl
@[go_sem] theorem as72 : tyAS Tryd.prog 72 = some (false, 1) := by kernel_rfl
@[go_sem] theorem sl72 : tySl Tryd.prog 72 = none := by kernel_rfl
@[go_sem] theorem int72 : tyInt Tryd.prog 72 = none := by kernel_rfl
@[go_sem] theorem str72 : tyStr Tryd.prog 72 = false := by kernel_rfl
@[go_sem] theorem bool72 : tyBool Tryd.prog 72 = false := by kernel_rfl
@[go_sem] theorem z72 : tyZ Tryd.prog 72 = some ((.junk) :: []) := by kernel_rfl
@[go_sem] theorem und73 : (Tryd.prog.underlying 73).isSome = true := by kernel_rfl
@[go_sem] theorem as73 : tyAS Tryd.prog 73 = some (false, 1) := by kernel_rfl
@[go_sem] theorem sl73 : tySl Tryd.prog 73 = none := by kernel_rfl
@[go_sem] theorem int73 : tyInt Tryd.prog 73 = some (.u8) := by kernel_rfl
@[go_sem] theorem str73 : tyStr Tryd.prog 73 = false := by kernel_rfl
@[go_sem] theorem bool73 : tyBool Tryd.prog 73 = false := by kernel_rfl
@[go_sem] theorem z73 : tyZ Tryd.prog 73 = some ((.int .u8 (0)) :: []) := by kernel_rfl
@[go_sem] theorem und74 : (Tryd.prog.underlying 74).isSome = true := by kernel_rfl
@[go_sem] theorem as74 : tyAS Tryd.prog 74 = some (false, 1) := by kernel_rfl
@[go_sem] theorem sl74 : tySl Tryd.prog 74 = none := by kernel_rfl
@[go_sem] theorem int74 : tyInt Tryd.prog 74 = some (.u8) := by kernel_rfl
@[go_sem] theorem str74 : tyStr Tryd.prog 74 = false := by kernel_rfl
@[go_sem] theorem bool74 : tyBool Tryd.prog 74 = false := by kernel_rfl
@[go_sem] theorem z74 : tyZ Tryd.prog 74 = some ((.int .u8 (0)) :: []) := by kernel_rfl
@[go_sem] theorem und75 : (Tryd.prog.underlying 75).isSome = true := by kernel_rfl
@[go_sem] theorem as75 : tyAS Tryd.prog 75 = some (false, 1) := by kernel_rfl
@[go_sem] theorem sl75 : tySl Tryd.prog 75 = none := by kernel_rfl
@[go_sem] theorem int75 : tyInt Tryd.prog 75 = none := by kernel_rfl
@[go_sem] theorem str75 : tyStr Tryd.prog 75 = false := by kernel_rfl
@[go_sem] theorem bool75 : tyBool Tryd.prog 75 = false := by kernel_rfl
@[go_sem] theorem z75 : tyZ Tryd.prog 75 = some ((.junk) :: []) := by kernel_rfl
@[go_sem] theorem und76 : (Tryd.prog.underlying 76).isSome = true := by kernel_rfl
@[go_sem] theorem as76 : tyAS Tryd.prog 76 = some (false, 1) := by kernel_rfl
@[go_sem] theorem sl76 : tySl Tryd.prog 76 = none := by kernel_rfl
@[go_sem] theorem int76 : tyInt Tryd.prog 76 = none := by kernel_rfl
@[go_sem] theorem str76 : tyStr Tryd.prog 76 = false := by kernel_rfl
@[go_sem] theorem bool76 : tyBool Tryd.prog 76 = false := by kernel_rfl
@[go_sem] theorem z76 : tyZ Tryd.prog 76 = some ((.nilp) :: []) := by kernel_rfl
@[go_sem] theorem und77 : (Tryd.prog.underlying 77).isSome = true := by kernel_rfl
@[go_sem] theorem as77 : tyAS Tryd.prog 77 = some (false, 1) := by kernel_rfl
@[go_sem] theorem sl77 : tySl Tryd.prog 77 = none := by kernel_rfl
@[go_sem] theorem int77 : tyInt Tryd.prog 77 = some (.i32) := by kernel_rfl
@[go_sem] theorem str77 : tyStr Tryd.prog 77 = false := by kernel_rfl
@[go_sem] theorem bool77 : tyBool Tryd.prog 77 = false := by kernel_rfl
@[go_sem] theorem z77 : tyZ Tryd.prog 77 = some ((.int .i32 (0)) :: []) := by kernel_rfl
@[go_sem] theorem und78 : (Tryd.prog.underlying 78).isSome = true := by kernel_rfl
@[go_sem] theorem as78 : tyAS Tryd.prog 78 = some (false, 1) := by kernel_rfl
@[go_sem] theorem sl78 : tySl Tryd.prog 78 = none := by kernel_rfl
@[go_sem] theorem int78 : tyInt Tryd.prog 78 = some (.i32) := by kernel_rfl
@[go_sem] theorem str78 : tyStr Tryd.prog 78 = false := by kernel_rfl
@[go_sem] theorem bool78 : tyBool Tryd.prog 78 = false := by kernel_rfl
@[go_sem] theorem z78 : tyZ Tryd.prog 78 = some ((.int .i32 (0)) :: []) := by kernel_rfl
@[go_sem] theorem und79 : (Tryd.prog.underlying 79).isSome = true := by kernel_rfl
@[go_sem] theorem as79 : tyAS Tryd.prog 79 = some (true, 11) := by kernel_rfl
@[go_sem] theorem sl79 : tySl Tryd.prog 79 = none := by kernel_rfl
@[go_sem] theorem int79 : tyInt Tryd.prog 79 = none := by kernel_rfl
@[go_sem] theorem str79 : tyStr Tryd.prog 79 = false := by kernel_rfl
@[go_sem] theorem bool79 : tyBool Tryd.prog 79 = false := by kernel_rfl
@[go_sem] theorem z79 : tyZ Tryd.prog 79 = some ((.int .u64 (0)) :: (.int .u64 (0)) :: (.int .u32 (0)) :: (.int .u8 (0)) :: (.int .u8 (0)) :: (.int .u8 (0)) :: (.int .u8 (0)) :: (.junk) :: (.nilp) :: (.int .i32 (0)) :: (.int .i32 (0)) :: []) := by kernel_rfl
@[go_sem] theorem fs79 : tyFs Tryd.prog 79 = some ((0, 1) :: (1, 1) :: (2, 1) :: (3, 1) :: (4, 1) :: (5, 1) :: (6, 1) :: (7, 1) :: (8, 1) :: (9, 1) :: (10, 1) :: []) := by kernel_rfl
@[go_sem] theorem fld79_0 : tyFld Tryd.prog 79 0 = some (0, 1, false) := by kernel_rfl
@[go_sem] theorem fld79_1 : tyFld Tryd.prog 79 1 = some (1, 1, false) := by kernel_rfl
@[go_sem] theorem fld79_2 : tyFld Tryd.prog 79 2 = some (2, 1, false) := by kernel_rfl
@[go_sem] theorem fld79_3 : tyFld Tryd.prog 79 3 = some (3, 1, false) := by kernel_rfl
@[go_sem] theorem fld79_4 : tyFld Tryd.prog 79 4 = some (4, 1, false) := by kernel_rfl
@[go_sem] theorem fld79_5 : tyFld Tryd.prog 79 5 = some (5, 1, false) := by kernel_rfl
@[go_sem] theorem fld79_6 : tyFld Tryd.prog 79 6 = some (6, 1, false) := by kernel_rfl
@[go_sem] theorem fld79_7 : tyFld Tryd.prog 79 7 = some (7, 1, false) := by kernel_rfl
@[go_sem] theorem fld79_8 : tyFld Tryd.prog 79 8 = some (8, 1, false) := by kernel_rfl
@[go_sem] theorem fld79_9 : tyFld Tryd.prog 79 9 = some (9, 1, false) := by kernel_rfl
@[go_sem] theorem fld79_10 : tyFld Tryd.prog 79 10 = some (10, 1, false) := by kernel_rfl
@[go_sem] theorem und80 : (Tryd.prog.underlying 80).isSome = true := by kernel_rfl
@[go_sem] theorem as80 : tyAS Tryd.prog 80 = some (true, 11) := by kernel_rfl
@[go_sem] theorem sl80 : tySl Tryd.prog 80 = none := by kernel_rfl
@[go_sem] theorem int80 : tyInt Tryd.prog 80 = none := by kernel_rfl
@[go_sem] theorem str80 : tyStr Tryd.prog 80 = false := by kernel_rfl
@[go_sem] theorem bool80 : tyBool Tryd.prog 80 = false := by kernel_rfl
@[go_sem] theorem z80 : tyZ Tryd.prog 80 = some ((.int .u64 (0)) :: (.int .u64 (0)) :: (.int .u32 (0)) :: (.int .u8 (0)) :: (.int .u8 (0)) :: (.int .u8 (0)) :: (.int .u8 (0)) :: (.junk) :: (.nilp) :: (.int .i32 (0)) :: (.int .i32 (0)) :: []) := by kernel_rfl
@[go_sem] theorem fs80 : tyFs Tryd.prog 80 = some ((0, 1) :: (1, 1) :: (2, 1) :: (3, 1) :: (4, 1) :: (5, 1) :: (6, 1) :: (7, 1) :: (8, 1) :: (9, 1) :: (10, 1) :: []) := by kernel_rfl
@[go_sem] theorem fld80_0 : tyFld Tryd.prog 80 0 = some (0, 1, false) := by kernel_rfl
@[go_sem] theorem fld80_1 : tyFld Tryd.prog 80 1 = some (1, 1, false) := by kernel_rfl
@[go_sem] theorem fld80_2 : tyFld Tryd.prog 80 2 = some (2, 1, false) := by kernel_rfl
@[go_sem] theorem fld80_3 : tyFld Tryd.prog 80 3 = some (3, 1, false) := by kernel_rfl
@[go_sem] theorem fld80_4 : tyFld Tryd.prog 80 4 = some (4, 1, false) := by kernel_rfl
@[go_sem] theorem fld80_5 : tyFld Tryd.prog 80 5 = some (5, 1, false) := by kernel_rfl
@[go_sem] theorem fld80_6 : tyFld Tryd.prog 80 6 = some (6, 1, false) := by kernel_rfl
@[go_sem] theorem fld80_7 : tyFld Tryd.prog 80 7 = some (7, 1, false) := by kernel_rfl
@[go_sem] theorem fld80_8 : tyFld Tryd.prog 80 8 = some (8, 1, false) := by kernel_rfl
@[go_sem] theorem fld80_9 : tyFld Tryd.prog 80 9 = some (9, 1, false) := by kernel_rfl
@[go_sem] theorem fld80_10 : tyFld Tryd.prog 80 10 = some (10, 1, false) := by kernel_rfl
@[go_sem] theorem und81 : (Tryd.prog.underlying 81).isSome = true := by kernel_rfl
@[go_sem] theorem as81 : tyAS Tryd.prog 81 = some (false, 1) := by kernel_rfl
@[go_sem] theorem sl81 : tySl Tryd.prog 81 = none := by kernel_rfl
@[go_sem] theorem int81 : tyInt Tryd.prog 81 = none := by kernel_rfl
@[go_sem] theorem str81 : tyStr Tryd.prog 81 = false := by kernel_rfl
@[go_sem] theorem bool81 : tyBool Tryd.prog 81 = false := by kernel_rfl
@[go_sem] theorem z81 : tyZ Tryd.prog 81 = some ((.nilp) :: []) := by kernel_rfl
end Go.TH
