/- What the seat's program says of its types, in the forms that the walk asks. No conditions. -/
import Derived.Test.YtdglignjoojimaaSx
import Derived.Test.YtdglignjoojimaaProg
namespace Go.Proofs.Ytdglignjoojimaa
theorem ti0 : Try.prog.info? 0 = some Try.t0 := by kernel_rfl
theorem ti1 : Try.prog.info? 1 = some Try.t1 := by kernel_rfl
theorem tz1 : ((Try.prog.info? 1).bind (·.zero)).map (·.cells) = some (List.toArray [.nilFunc]) := by kernel_rfl
theorem tx1 : TyI Try.prog 1 1 8 .nilFunc := ⟨Try.t1, ti1, rfl, rfl, rfl⟩
theorem ti2 : Try.prog.info? 2 = some Try.t2 := by kernel_rfl
theorem tz2 : ((Try.prog.info? 2).bind (·.zero)).map (·.cells) = some (List.toArray [(.int .i64 0)]) := by kernel_rfl
theorem tx2 : TyI Try.prog 2 1 8 (.int .i64 0) := ⟨Try.t2, ti2, rfl, rfl, rfl⟩
theorem ti3 : Try.prog.info? 3 = some Try.t3 := by kernel_rfl
theorem tz3 : ((Try.prog.info? 3).bind (·.zero)).map (·.cells) = some (List.toArray [(.int .i64 0)]) := by kernel_rfl
theorem tx3 : TyI Try.prog 3 1 8 (.int .i64 0) := ⟨Try.t3, ti3, rfl, rfl, rfl⟩
theorem ti4 : Try.prog.info? 4 = some Try.t4 := by kernel_rfl
theorem tz4 : ((Try.prog.info? 4).bind (·.zero)).map (·.cells) = some (List.toArray [(.bool false)]) := by kernel_rfl
theorem tx4 : TyI Try.prog 4 1 1 (.bool false) := ⟨Try.t4, ti4, rfl, rfl, rfl⟩
theorem ti5 : Try.prog.info? 5 = some Try.t5 := by kernel_rfl
theorem tz5 : ((Try.prog.info? 5).bind (·.zero)).map (·.cells) = some (List.toArray [(.int .u8 0)]) := by kernel_rfl
theorem tx5 : TyI Try.prog 5 1 1 (.int .u8 0) := ⟨Try.t5, ti5, rfl, rfl, rfl⟩
theorem ti6 : Try.prog.info? 6 = some Try.t6 := by kernel_rfl
theorem tz6 : ((Try.prog.info? 6).bind (·.zero)).map (·.cells) = some (List.toArray [(.int .u8 0)]) := by kernel_rfl
theorem tx6 : TyI Try.prog 6 1 1 (.int .u8 0) := ⟨Try.t6, ti6, rfl, rfl, rfl⟩
theorem ti7 : Try.prog.info? 7 = some Try.t7 := by kernel_rfl
theorem tz7 : ((Try.prog.info? 7).bind (·.zero)).map (·.cells) = some (List.toArray [(.int .i64 0), (.int .i64 0), (.bool false), (.int .u8 0)]) := by kernel_rfl
theorem tx7 : TyI Try.prog 7 4 24 (.agg #[(.int .i64 0), (.int .i64 0), (.bool false), (.int .u8 0)]) := ⟨Try.t7, ti7, rfl, rfl, rfl⟩
theorem to7 : okFs Try.prog #[{ name := "x", type := 2, offset := 0, embedded := false, tag := "", pkgPath := "runtime", byteOffset := 0 }, { name := "y", type := 3, offset := 1, embedded := false, tag := "", pkgPath := "runtime", byteOffset := 8 }, { name := "signed", type := 4, offset := 2, embedded := false, tag := "", pkgPath := "runtime", byteOffset := 16 }, { name := "code", type := 6, offset := 3, embedded := false, tag := "", pkgPath := "runtime", byteOffset := 17 }] = true := by kernel_rfl
theorem ti8 : Try.prog.info? 8 = some Try.t8 := by kernel_rfl
theorem tz8 : ((Try.prog.info? 8).bind (·.zero)).map (·.cells) = some (List.toArray [(.int .i64 0), (.int .i64 0), (.bool false), (.int .u8 0)]) := by kernel_rfl
theorem tx8 : TyI Try.prog 8 4 24 (.agg #[(.int .i64 0), (.int .i64 0), (.bool false), (.int .u8 0)]) := ⟨Try.t8, ti8, rfl, rfl, rfl⟩
theorem to8 : okFs Try.prog #[{ name := "x", type := 2, offset := 0, embedded := false, tag := "", pkgPath := "runtime", byteOffset := 0 }, { name := "y", type := 3, offset := 1, embedded := false, tag := "", pkgPath := "runtime", byteOffset := 8 }, { name := "signed", type := 4, offset := 2, embedded := false, tag := "", pkgPath := "runtime", byteOffset := 16 }, { name := "code", type := 6, offset := 3, embedded := false, tag := "", pkgPath := "runtime", byteOffset := 17 }] = true := by kernel_rfl
theorem ti9 : Try.prog.info? 9 = some Try.t9 := by kernel_rfl
theorem tz9 : ((Try.prog.info? 9).bind (·.zero)).map (·.cells) = some (List.toArray [(.string ByteArray.empty)]) := by kernel_rfl
theorem tx9 : TyI Try.prog 9 1 16 (.string ByteArray.empty) := ⟨Try.t9, ti9, rfl, rfl, rfl⟩
theorem ti10 : Try.prog.info? 10 = some Try.t10 := by kernel_rfl
theorem tz10 : ((Try.prog.info? 10).bind (·.zero)).map (·.cells) = some (List.toArray [(.string ByteArray.empty)]) := by kernel_rfl
theorem tx10 : TyI Try.prog 10 1 16 (.string ByteArray.empty) := ⟨Try.t10, ti10, rfl, rfl, rfl⟩
theorem ti11 : Try.prog.info? 11 = some Try.t11 := by kernel_rfl
theorem tz11 : ((Try.prog.info? 11).bind (·.zero)).map (·.cells) = some (List.toArray [(.string ByteArray.empty)]) := by kernel_rfl
theorem tx11 : TyI Try.prog 11 1 16 (.string ByteArray.empty) := ⟨Try.t11, ti11, rfl, rfl, rfl⟩
theorem ti12 : Try.prog.info? 12 = some Try.t12 := by kernel_rfl
theorem tz12 : ((Try.prog.info? 12).bind (·.zero)).map (·.cells) = some (List.toArray [(.int .u64 0)]) := by kernel_rfl
theorem tx12 : TyI Try.prog 12 1 8 (.int .u64 0) := ⟨Try.t12, ti12, rfl, rfl, rfl⟩
theorem ti13 : Try.prog.info? 13 = some Try.t13 := by kernel_rfl
theorem tz13 : ((Try.prog.info? 13).bind (·.zero)).map (·.cells) = some (List.toArray [(.string ByteArray.empty), (.int .u64 0)]) := by kernel_rfl
theorem tx13 : TyI Try.prog 13 2 24 (.agg #[(.string ByteArray.empty), (.int .u64 0)]) := ⟨Try.t13, ti13, rfl, rfl, rfl⟩
theorem to13 : okFs Try.prog #[{ name := "msg", type := 9, offset := 0, embedded := false, tag := "", pkgPath := "runtime", byteOffset := 0 }, { name := "addr", type := 12, offset := 1, embedded := false, tag := "", pkgPath := "runtime", byteOffset := 16 }] = true := by kernel_rfl
theorem ti14 : Try.prog.info? 14 = some Try.t14 := by kernel_rfl
theorem tz14 : ((Try.prog.info? 14).bind (·.zero)).map (·.cells) = some (List.toArray [(.string ByteArray.empty), (.int .u64 0)]) := by kernel_rfl
theorem tx14 : TyI Try.prog 14 2 24 (.agg #[(.string ByteArray.empty), (.int .u64 0)]) := ⟨Try.t14, ti14, rfl, rfl, rfl⟩
theorem to14 : okFs Try.prog #[{ name := "msg", type := 9, offset := 0, embedded := false, tag := "", pkgPath := "runtime", byteOffset := 0 }, { name := "addr", type := 12, offset := 1, embedded := false, tag := "", pkgPath := "runtime", byteOffset := 16 }] = true := by kernel_rfl
theorem ti15 : Try.prog.info? 15 = some Try.t15 := by kernel_rfl
theorem tz15 : ((Try.prog.info? 15).bind (·.zero)).map (·.cells) = some (List.toArray [(.pointer none)]) := by kernel_rfl
theorem tx15 : TyI Try.prog 15 1 8 (.pointer none) := ⟨Try.t15, ti15, rfl, rfl, rfl⟩
theorem ti16 : Try.prog.info? 16 = some Try.t16 := by kernel_rfl
theorem tz16 : ((Try.prog.info? 16).bind (·.zero)).map (·.cells) = some (List.toArray [(.pointer none)]) := by kernel_rfl
theorem tx16 : TyI Try.prog 16 1 8 (.pointer none) := ⟨Try.t16, ti16, rfl, rfl, rfl⟩
theorem ti17 : Try.prog.info? 17 = some Try.t17 := by kernel_rfl
theorem tz17 : ((Try.prog.info? 17).bind (·.zero)).map (·.cells) = some (List.toArray [(.pointer none)]) := by kernel_rfl
theorem tx17 : TyI Try.prog 17 1 8 (.pointer none) := ⟨Try.t17, ti17, rfl, rfl, rfl⟩
theorem ti18 : Try.prog.info? 18 = some Try.t18 := by kernel_rfl
theorem tz18 : ((Try.prog.info? 18).bind (·.zero)).map (·.cells) = some (List.toArray [(.pointer none)]) := by kernel_rfl
theorem tx18 : TyI Try.prog 18 1 8 (.agg #[(.pointer none)]) := ⟨Try.t18, ti18, rfl, rfl, rfl⟩
theorem to18 : okFs Try.prog #[{ name := "typ", type := 17, offset := 0, embedded := false, tag := "", pkgPath := "internal/runtime/maps", byteOffset := 0 }] = true := by kernel_rfl
theorem ti19 : Try.prog.info? 19 = some Try.t19 := by kernel_rfl
theorem tz19 : ((Try.prog.info? 19).bind (·.zero)).map (·.cells) = some (List.toArray [(.pointer none)]) := by kernel_rfl
theorem tx19 : TyI Try.prog 19 1 8 (.agg #[(.pointer none)]) := ⟨Try.t19, ti19, rfl, rfl, rfl⟩
theorem to19 : okFs Try.prog #[{ name := "typ", type := 17, offset := 0, embedded := false, tag := "", pkgPath := "internal/runtime/maps", byteOffset := 0 }] = true := by kernel_rfl
theorem ti20 : Try.prog.info? 20 = some Try.t20 := by kernel_rfl
theorem tz20 : ((Try.prog.info? 20).bind (·.zero)).map (·.cells) = some (List.toArray [.nilIface]) := by kernel_rfl
theorem tx20 : TyI Try.prog 20 1 16 .nilIface := ⟨Try.t20, ti20, rfl, rfl, rfl⟩
theorem ti21 : Try.prog.info? 21 = some Try.t21 := by kernel_rfl
theorem tz21 : ((Try.prog.info? 21).bind (·.zero)).map (·.cells) = some (List.toArray [(.int .i32 0)]) := by kernel_rfl
theorem tx21 : TyI Try.prog 21 1 4 (.int .i32 0) := ⟨Try.t21, ti21, rfl, rfl, rfl⟩
theorem ti22 : Try.prog.info? 22 = some Try.t22 := by kernel_rfl
theorem tz22 : ((Try.prog.info? 22).bind (·.zero)).map (·.cells) = some (List.toArray [(.slice none 0 0)]) := by kernel_rfl
theorem tx22 : TyI Try.prog 22 1 24 (.slice none 0 0) := ⟨Try.t22, ti22, rfl, rfl, rfl⟩
theorem ti23 : Try.prog.info? 23 = some Try.t23 := by kernel_rfl
theorem tz23 : ((Try.prog.info? 23).bind (·.zero)).map (·.cells) = some (List.toArray [(.int .u64 0)]) := by kernel_rfl
theorem tx23 : TyI Try.prog 23 1 8 (.int .u64 0) := ⟨Try.t23, ti23, rfl, rfl, rfl⟩
theorem ti24 : Try.prog.info? 24 = some Try.t24 := by kernel_rfl
theorem tz24 : ((Try.prog.info? 24).bind (·.zero)).map (·.cells) = some (List.toArray [.nilFunc]) := by kernel_rfl
theorem tx24 : TyI Try.prog 24 1 8 .nilFunc := ⟨Try.t24, ti24, rfl, rfl, rfl⟩
theorem ti25 : Try.prog.info? 25 = some Try.t25 := by kernel_rfl
theorem tz25 : ((Try.prog.info? 25).bind (·.zero)).map (·.cells) = some (List.toArray [(.pointer none)]) := by kernel_rfl
theorem tx25 : TyI Try.prog 25 1 8 (.pointer none) := ⟨Try.t25, ti25, rfl, rfl, rfl⟩
theorem ti26 : Try.prog.info? 26 = some Try.t26 := by kernel_rfl
theorem tz26 : ((Try.prog.info? 26).bind (·.zero)).map (·.cells) = some (List.toArray [(.slice none 0 0)]) := by kernel_rfl
theorem tx26 : TyI Try.prog 26 1 24 (.slice none 0 0) := ⟨Try.t26, ti26, rfl, rfl, rfl⟩
theorem ti27 : Try.prog.info? 27 = some Try.t27 := by kernel_rfl
theorem ti28 : Try.prog.info? 28 = some Try.t28 := by kernel_rfl
theorem tz28 : ((Try.prog.info? 28).bind (·.zero)).map (·.cells) = some (List.toArray [.nilFunc]) := by kernel_rfl
theorem tx28 : TyI Try.prog 28 1 8 .nilFunc := ⟨Try.t28, ti28, rfl, rfl, rfl⟩
theorem ti29 : Try.prog.info? 29 = some Try.t29 := by kernel_rfl
theorem tz29 : ((Try.prog.info? 29).bind (·.zero)).map (·.cells) = some (List.toArray [.nilFunc]) := by kernel_rfl
theorem tx29 : TyI Try.prog 29 1 8 .nilFunc := ⟨Try.t29, ti29, rfl, rfl, rfl⟩
theorem ti30 : Try.prog.info? 30 = some Try.t30 := by kernel_rfl
theorem tz30 : ((Try.prog.info? 30).bind (·.zero)).map (·.cells) = some (List.toArray [.nilFunc]) := by kernel_rfl
theorem tx30 : TyI Try.prog 30 1 8 .nilFunc := ⟨Try.t30, ti30, rfl, rfl, rfl⟩
theorem ti31 : Try.prog.info? 31 = some Try.t31 := by kernel_rfl
theorem tz31 : ((Try.prog.info? 31).bind (·.zero)).map (·.cells) = some (List.toArray [.nilFunc]) := by kernel_rfl
theorem tx31 : TyI Try.prog 31 1 8 .nilFunc := ⟨Try.t31, ti31, rfl, rfl, rfl⟩
theorem ti32 : Try.prog.info? 32 = some Try.t32 := by kernel_rfl
theorem tz32 : ((Try.prog.info? 32).bind (·.zero)).map (·.cells) = some (List.toArray [.nilFunc]) := by kernel_rfl
theorem tx32 : TyI Try.prog 32 1 8 .nilFunc := ⟨Try.t32, ti32, rfl, rfl, rfl⟩
theorem ti33 : Try.prog.info? 33 = some Try.t33 := by kernel_rfl
theorem tz33 : ((Try.prog.info? 33).bind (·.zero)).map (·.cells) = some (List.toArray [(.int .i64 0), (.int .i64 0)]) := by kernel_rfl
theorem tx33 : TyI Try.prog 33 2 16 (.agg #[(.int .i64 0), (.int .i64 0)]) := ⟨Try.t33, ti33, rfl, rfl, rfl⟩
theorem to33 : okFs Try.prog #[{ name := "Start", type := 3, offset := 0, embedded := false, tag := "", pkgPath := "", byteOffset := 0 }, { name := "Len", type := 3, offset := 1, embedded := false, tag := "", pkgPath := "", byteOffset := 8 }] = true := by kernel_rfl
theorem ti34 : Try.prog.info? 34 = some Try.t34 := by kernel_rfl
theorem tz34 : ((Try.prog.info? 34).bind (·.zero)).map (·.cells) = some (List.toArray [(.int .i64 0), (.int .i64 0)]) := by kernel_rfl
theorem tx34 : TyI Try.prog 34 2 16 (.agg #[(.int .i64 0), (.int .i64 0)]) := ⟨Try.t34, ti34, rfl, rfl, rfl⟩
theorem to34 : okFs Try.prog #[{ name := "Start", type := 3, offset := 0, embedded := false, tag := "", pkgPath := "", byteOffset := 0 }, { name := "Len", type := 3, offset := 1, embedded := false, tag := "", pkgPath := "", byteOffset := 8 }] = true := by kernel_rfl
theorem ti35 : Try.prog.info? 35 = some Try.t35 := by kernel_rfl
theorem tz35 : ((Try.prog.info? 35).bind (·.zero)).map (·.cells) = some (List.toArray [(.int .i64 0), (.int .u64 0), (.int .i64 0), (.int .i64 0)]) := by kernel_rfl
theorem tx35 : TyI Try.prog 35 4 32 (.agg #[(.int .i64 0), (.int .u64 0), (.int .i64 0), (.int .i64 0)]) := ⟨Try.t35, ti35, rfl, rfl, rfl⟩
theorem to35 : okFs Try.prog #[{ name := "Kind", type := 3, offset := 0, embedded := false, tag := "", pkgPath := "", byteOffset := 0 }, { name := "Key", type := 23, offset := 1, embedded := false, tag := "", pkgPath := "", byteOffset := 8 }, { name := "At", type := 34, offset := 2, embedded := false, tag := "", pkgPath := "", byteOffset := 16 }] = true := by kernel_rfl
theorem ti36 : Try.prog.info? 36 = some Try.t36 := by kernel_rfl
theorem tz36 : ((Try.prog.info? 36).bind (·.zero)).map (·.cells) = some (List.toArray [(.int .i64 0), (.int .u64 0), (.int .i64 0), (.int .i64 0)]) := by kernel_rfl
theorem tx36 : TyI Try.prog 36 4 32 (.agg #[(.int .i64 0), (.int .u64 0), (.int .i64 0), (.int .i64 0)]) := ⟨Try.t36, ti36, rfl, rfl, rfl⟩
theorem to36 : okFs Try.prog #[{ name := "Kind", type := 3, offset := 0, embedded := false, tag := "", pkgPath := "", byteOffset := 0 }, { name := "Key", type := 23, offset := 1, embedded := false, tag := "", pkgPath := "", byteOffset := 8 }, { name := "At", type := 34, offset := 2, embedded := false, tag := "", pkgPath := "", byteOffset := 16 }] = true := by kernel_rfl
theorem ti37 : Try.prog.info? 37 = some Try.t37 := by kernel_rfl
theorem ti38 : Try.prog.info? 38 = some Try.t38 := by kernel_rfl
theorem tz38 : ((Try.prog.info? 38).bind (·.zero)).map (·.cells) = some (List.toArray [.nilFunc]) := by kernel_rfl
theorem tx38 : TyI Try.prog 38 1 8 .nilFunc := ⟨Try.t38, ti38, rfl, rfl, rfl⟩
theorem ti39 : Try.prog.info? 39 = some Try.t39 := by kernel_rfl
theorem tz39 : ((Try.prog.info? 39).bind (·.zero)).map (·.cells) = some (List.toArray [.nilFunc]) := by kernel_rfl
theorem tx39 : TyI Try.prog 39 1 8 .nilFunc := ⟨Try.t39, ti39, rfl, rfl, rfl⟩
theorem ti40 : Try.prog.info? 40 = some Try.t40 := by kernel_rfl
theorem tz40 : ((Try.prog.info? 40).bind (·.zero)).map (·.cells) = some (List.toArray [.nilFunc]) := by kernel_rfl
theorem tx40 : TyI Try.prog 40 1 8 .nilFunc := ⟨Try.t40, ti40, rfl, rfl, rfl⟩
theorem ti41 : Try.prog.info? 41 = some Try.t41 := by kernel_rfl
theorem tz41 : ((Try.prog.info? 41).bind (·.zero)).map (·.cells) = some (List.toArray [(.slice none 0 0)]) := by kernel_rfl
theorem tx41 : TyI Try.prog 41 1 24 (.slice none 0 0) := ⟨Try.t41, ti41, rfl, rfl, rfl⟩
theorem ti42 : Try.prog.info? 42 = some Try.t42 := by kernel_rfl
theorem tz42 : ((Try.prog.info? 42).bind (·.zero)).map (·.cells) = some (List.toArray [.nilFunc]) := by kernel_rfl
theorem tx42 : TyI Try.prog 42 1 8 .nilFunc := ⟨Try.t42, ti42, rfl, rfl, rfl⟩
theorem ti43 : Try.prog.info? 43 = some Try.t43 := by kernel_rfl
theorem tz43 : ((Try.prog.info? 43).bind (·.zero)).map (·.cells) = some (List.toArray [.nilFunc]) := by kernel_rfl
theorem tx43 : TyI Try.prog 43 1 8 .nilFunc := ⟨Try.t43, ti43, rfl, rfl, rfl⟩
theorem ti44 : Try.prog.info? 44 = some Try.t44 := by kernel_rfl
theorem tz44 : ((Try.prog.info? 44).bind (·.zero)).map (·.cells) = some (List.toArray [.nilFunc]) := by kernel_rfl
theorem tx44 : TyI Try.prog 44 1 8 .nilFunc := ⟨Try.t44, ti44, rfl, rfl, rfl⟩
theorem ti45 : Try.prog.info? 45 = some Try.t45 := by kernel_rfl
theorem tz45 : ((Try.prog.info? 45).bind (·.zero)).map (·.cells) = some (List.toArray [.nilFunc]) := by kernel_rfl
theorem tx45 : TyI Try.prog 45 1 8 .nilFunc := ⟨Try.t45, ti45, rfl, rfl, rfl⟩
theorem ti46 : Try.prog.info? 46 = some Try.t46 := by kernel_rfl
theorem tz46 : ((Try.prog.info? 46).bind (·.zero)).map (·.cells) = some (List.toArray [(.int .u64 0), (.int .i64 0), (.int .i64 0)]) := by kernel_rfl
theorem tx46 : TyI Try.prog 46 3 24 (.agg #[(.int .u64 0), (.int .i64 0), (.int .i64 0)]) := ⟨Try.t46, ti46, rfl, rfl, rfl⟩
theorem to46 : okFs Try.prog #[{ name := "Key", type := 23, offset := 0, embedded := false, tag := "", pkgPath := "", byteOffset := 0 }, { name := "At", type := 34, offset := 1, embedded := false, tag := "", pkgPath := "", byteOffset := 8 }] = true := by kernel_rfl
theorem ti47 : Try.prog.info? 47 = some Try.t47 := by kernel_rfl
theorem tz47 : ((Try.prog.info? 47).bind (·.zero)).map (·.cells) = some (List.toArray [(.int .u64 0), (.int .i64 0), (.int .i64 0)]) := by kernel_rfl
theorem tx47 : TyI Try.prog 47 3 24 (.agg #[(.int .u64 0), (.int .i64 0), (.int .i64 0)]) := ⟨Try.t47, ti47, rfl, rfl, rfl⟩
theorem to47 : okFs Try.prog #[{ name := "Key", type := 23, offset := 0, embedded := false, tag := "", pkgPath := "", byteOffset := 0 }, { name := "At", type := 34, offset := 1, embedded := false, tag := "", pkgPath := "", byteOffset := 8 }] = true := by kernel_rfl
theorem ti48 : Try.prog.info? 48 = some Try.t48 := by kernel_rfl
theorem tz48 : ((Try.prog.info? 48).bind (·.zero)).map (·.cells) = some (List.toArray [.nilFunc]) := by kernel_rfl
theorem tx48 : TyI Try.prog 48 1 8 .nilFunc := ⟨Try.t48, ti48, rfl, rfl, rfl⟩
theorem ti49 : Try.prog.info? 49 = some Try.t49 := by kernel_rfl
theorem ti50 : Try.prog.info? 50 = some Try.t50 := by kernel_rfl
theorem tz50 : ((Try.prog.info? 50).bind (·.zero)).map (·.cells) = some (List.toArray [.nilFunc]) := by kernel_rfl
theorem tx50 : TyI Try.prog 50 1 8 .nilFunc := ⟨Try.t50, ti50, rfl, rfl, rfl⟩
theorem ti51 : Try.prog.info? 51 = some Try.t51 := by kernel_rfl
theorem tz51 : ((Try.prog.info? 51).bind (·.zero)).map (·.cells) = some (List.toArray [(.int .i64 0)]) := by kernel_rfl
theorem tx51 : TyI Try.prog 51 1 8 (.int .i64 0) := ⟨Try.t51, ti51, rfl, rfl, rfl⟩
theorem ti52 : Try.prog.info? 52 = some Try.t52 := by kernel_rfl
theorem ti53 : Try.prog.info? 53 = some Try.t53 := by kernel_rfl
theorem tz53 : ((Try.prog.info? 53).bind (·.zero)).map (·.cells) = some (List.toArray [.nilFunc]) := by kernel_rfl
theorem tx53 : TyI Try.prog 53 1 8 .nilFunc := ⟨Try.t53, ti53, rfl, rfl, rfl⟩
theorem ti54 : Try.prog.info? 54 = some Try.t54 := by kernel_rfl
theorem tz54 : ((Try.prog.info? 54).bind (·.zero)).map (·.cells) = some (List.toArray [.nilFunc]) := by kernel_rfl
theorem tx54 : TyI Try.prog 54 1 8 .nilFunc := ⟨Try.t54, ti54, rfl, rfl, rfl⟩
theorem ti55 : Try.prog.info? 55 = some Try.t55 := by kernel_rfl
theorem tz55 : ((Try.prog.info? 55).bind (·.zero)).map (·.cells) = some (List.toArray [.nilFunc]) := by kernel_rfl
theorem tx55 : TyI Try.prog 55 1 8 .nilFunc := ⟨Try.t55, ti55, rfl, rfl, rfl⟩
theorem ti56 : Try.prog.info? 56 = some Try.t56 := by kernel_rfl
theorem tz56 : ((Try.prog.info? 56).bind (·.zero)).map (·.cells) = some (List.toArray [.nilFunc]) := by kernel_rfl
theorem tx56 : TyI Try.prog 56 1 8 .nilFunc := ⟨Try.t56, ti56, rfl, rfl, rfl⟩
theorem ti57 : Try.prog.info? 57 = some Try.t57 := by kernel_rfl
theorem tz57 : ((Try.prog.info? 57).bind (·.zero)).map (·.cells) = some (List.toArray [.nilFunc]) := by kernel_rfl
theorem tx57 : TyI Try.prog 57 1 8 .nilFunc := ⟨Try.t57, ti57, rfl, rfl, rfl⟩
theorem ti58 : Try.prog.info? 58 = some Try.t58 := by kernel_rfl
theorem tz58 : ((Try.prog.info? 58).bind (·.zero)).map (·.cells) = some (List.toArray [.nilFunc]) := by kernel_rfl
theorem tx58 : TyI Try.prog 58 1 8 .nilFunc := ⟨Try.t58, ti58, rfl, rfl, rfl⟩
theorem ti59 : Try.prog.info? 59 = some Try.t59 := by kernel_rfl
theorem tz59 : ((Try.prog.info? 59).bind (·.zero)).map (·.cells) = some (List.toArray [(.slice none 0 0)]) := by kernel_rfl
theorem tx59 : TyI Try.prog 59 1 24 (.slice none 0 0) := ⟨Try.t59, ti59, rfl, rfl, rfl⟩
theorem ti60 : Try.prog.info? 60 = some Try.t60 := by kernel_rfl
theorem tz60 : ((Try.prog.info? 60).bind (·.zero)).map (·.cells) = some (List.toArray [(.pointer none)]) := by kernel_rfl
theorem tx60 : TyI Try.prog 60 1 8 (.pointer none) := ⟨Try.t60, ti60, rfl, rfl, rfl⟩
theorem ti61 : Try.prog.info? 61 = some Try.t61 := by kernel_rfl
theorem tz61 : ((Try.prog.info? 61).bind (·.zero)).map (·.cells) = some (List.toArray [.nilFunc]) := by kernel_rfl
theorem tx61 : TyI Try.prog 61 1 8 .nilFunc := ⟨Try.t61, ti61, rfl, rfl, rfl⟩
theorem ti62 : Try.prog.info? 62 = some Try.t62 := by kernel_rfl
theorem tz62 : ((Try.prog.info? 62).bind (·.zero)).map (·.cells) = some (List.toArray [(.slice none 0 0)]) := by kernel_rfl
theorem tx62 : TyI Try.prog 62 1 24 (.slice none 0 0) := ⟨Try.t62, ti62, rfl, rfl, rfl⟩
theorem ti63 : Try.prog.info? 63 = some Try.t63 := by kernel_rfl
theorem tz63 : ((Try.prog.info? 63).bind (·.zero)).map (·.cells) = some (List.toArray [(.slice none 0 0), (.slice none 0 0), (.int .i64 0), (.bool false)]) := by kernel_rfl
theorem tx63 : TyI Try.prog 63 4 64 (.agg #[(.slice none 0 0), (.slice none 0 0), (.int .i64 0), (.bool false)]) := ⟨Try.t63, ti63, rfl, rfl, rfl⟩
theorem to63 : okFs Try.prog #[{ name := "Stable", type := 59, offset := 0, embedded := false, tag := "", pkgPath := "", byteOffset := 0 }, { name := "Pending", type := 62, offset := 1, embedded := false, tag := "", pkgPath := "", byteOffset := 24 }, { name := "Fuel", type := 3, offset := 2, embedded := false, tag := "", pkgPath := "", byteOffset := 48 }, { name := "Dead", type := 4, offset := 3, embedded := false, tag := "", pkgPath := "", byteOffset := 56 }] = true := by kernel_rfl
theorem ti64 : Try.prog.info? 64 = some Try.t64 := by kernel_rfl
theorem tz64 : ((Try.prog.info? 64).bind (·.zero)).map (·.cells) = some (List.toArray [(.slice none 0 0), (.slice none 0 0), (.int .i64 0), (.bool false)]) := by kernel_rfl
theorem tx64 : TyI Try.prog 64 4 64 (.agg #[(.slice none 0 0), (.slice none 0 0), (.int .i64 0), (.bool false)]) := ⟨Try.t64, ti64, rfl, rfl, rfl⟩
theorem to64 : okFs Try.prog #[{ name := "Stable", type := 59, offset := 0, embedded := false, tag := "", pkgPath := "", byteOffset := 0 }, { name := "Pending", type := 62, offset := 1, embedded := false, tag := "", pkgPath := "", byteOffset := 24 }, { name := "Fuel", type := 3, offset := 2, embedded := false, tag := "", pkgPath := "", byteOffset := 48 }, { name := "Dead", type := 4, offset := 3, embedded := false, tag := "", pkgPath := "", byteOffset := 56 }] = true := by kernel_rfl
theorem ti65 : Try.prog.info? 65 = some Try.t65 := by kernel_rfl
theorem tz65 : ((Try.prog.info? 65).bind (·.zero)).map (·.cells) = some (List.toArray [.nilFunc]) := by kernel_rfl
theorem tx65 : TyI Try.prog 65 1 8 .nilFunc := ⟨Try.t65, ti65, rfl, rfl, rfl⟩
theorem ti66 : Try.prog.info? 66 = some Try.t66 := by kernel_rfl
theorem ti67 : Try.prog.info? 67 = some Try.t67 := by kernel_rfl
theorem ti68 : Try.prog.info? 68 = some Try.t68 := by kernel_rfl
theorem tz68 : ((Try.prog.info? 68).bind (·.zero)).map (·.cells) = some (List.toArray [.nilFunc]) := by kernel_rfl
theorem tx68 : TyI Try.prog 68 1 8 .nilFunc := ⟨Try.t68, ti68, rfl, rfl, rfl⟩
theorem ti69 : Try.prog.info? 69 = some Try.t69 := by kernel_rfl
theorem ti70 : Try.prog.info? 70 = some Try.t70 := by kernel_rfl
theorem tz70 : ((Try.prog.info? 70).bind (·.zero)).map (·.cells) = some (List.toArray [.nilFunc]) := by kernel_rfl
theorem tx70 : TyI Try.prog 70 1 8 .nilFunc := ⟨Try.t70, ti70, rfl, rfl, rfl⟩
theorem ti71 : Try.prog.info? 71 = some Try.t71 := by kernel_rfl
theorem tz71 : ((Try.prog.info? 71).bind (·.zero)).map (·.cells) = some (List.toArray [(.slice none 0 0)]) := by kernel_rfl
theorem tx71 : TyI Try.prog 71 1 24 (.slice none 0 0) := ⟨Try.t71, ti71, rfl, rfl, rfl⟩
theorem ti72 : Try.prog.info? 72 = some Try.t72 := by kernel_rfl
theorem ti73 : Try.prog.info? 73 = some Try.t73 := by kernel_rfl
theorem tz73 : ((Try.prog.info? 73).bind (·.zero)).map (·.cells) = some (List.toArray [.nilFunc]) := by kernel_rfl
theorem tx73 : TyI Try.prog 73 1 8 .nilFunc := ⟨Try.t73, ti73, rfl, rfl, rfl⟩
theorem ti74 : Try.prog.info? 74 = some Try.t74 := by kernel_rfl
theorem ti75 : Try.prog.info? 75 = some Try.t75 := by kernel_rfl
theorem tz75 : ((Try.prog.info? 75).bind (·.zero)).map (·.cells) = some (List.toArray [.nilFunc]) := by kernel_rfl
theorem tx75 : TyI Try.prog 75 1 8 .nilFunc := ⟨Try.t75, ti75, rfl, rfl, rfl⟩
theorem ti76 : Try.prog.info? 76 = some Try.t76 := by kernel_rfl
theorem tz76 : ((Try.prog.info? 76).bind (·.zero)).map (·.cells) = some (List.toArray [.nilFunc]) := by kernel_rfl
theorem tx76 : TyI Try.prog 76 1 8 .nilFunc := ⟨Try.t76, ti76, rfl, rfl, rfl⟩
theorem ti77 : Try.prog.info? 77 = some Try.t77 := by kernel_rfl
theorem tz77 : ((Try.prog.info? 77).bind (·.zero)).map (·.cells) = some (List.toArray [(.int .i64 0), (.int .i64 0)]) := by kernel_rfl
theorem tx77 : TyI Try.prog 77 2 16 (.agg #[(.int .i64 0), (.int .i64 0)]) := ⟨Try.t77, ti77, rfl, rfl, rfl⟩
theorem ti78 : Try.prog.info? 78 = some Try.t78 := by kernel_rfl
theorem tz78 : ((Try.prog.info? 78).bind (·.zero)).map (·.cells) = some (List.toArray [.nilFunc]) := by kernel_rfl
theorem tx78 : TyI Try.prog 78 1 8 .nilFunc := ⟨Try.t78, ti78, rfl, rfl, rfl⟩
theorem ti79 : Try.prog.info? 79 = some Try.t79 := by kernel_rfl
theorem ti80 : Try.prog.info? 80 = some Try.t80 := by kernel_rfl
theorem tz80 : ((Try.prog.info? 80).bind (·.zero)).map (·.cells) = some (List.toArray [.nilFunc]) := by kernel_rfl
theorem tx80 : TyI Try.prog 80 1 8 .nilFunc := ⟨Try.t80, ti80, rfl, rfl, rfl⟩
theorem ti81 : Try.prog.info? 81 = some Try.t81 := by kernel_rfl
theorem tz81 : ((Try.prog.info? 81).bind (·.zero)).map (·.cells) = some (List.toArray [.nilFunc]) := by kernel_rfl
theorem tx81 : TyI Try.prog 81 1 8 .nilFunc := ⟨Try.t81, ti81, rfl, rfl, rfl⟩
theorem ti82 : Try.prog.info? 82 = some Try.t82 := by kernel_rfl
theorem tz82 : ((Try.prog.info? 82).bind (·.zero)).map (·.cells) = some (List.toArray [.nilFunc]) := by kernel_rfl
theorem tx82 : TyI Try.prog 82 1 8 .nilFunc := ⟨Try.t82, ti82, rfl, rfl, rfl⟩
theorem ti83 : Try.prog.info? 83 = some Try.t83 := by kernel_rfl
theorem tz83 : ((Try.prog.info? 83).bind (·.zero)).map (·.cells) = some (List.toArray [(.pointer none)]) := by kernel_rfl
theorem tx83 : TyI Try.prog 83 1 8 (.pointer none) := ⟨Try.t83, ti83, rfl, rfl, rfl⟩
theorem ti84 : Try.prog.info? 84 = some Try.t84 := by kernel_rfl
theorem tz84 : ((Try.prog.info? 84).bind (·.zero)).map (·.cells) = some (List.toArray [(.pointer none), (.int .i64 0)]) := by kernel_rfl
theorem tx84 : TyI Try.prog 84 2 16 (.agg #[(.pointer none), (.int .i64 0)]) := ⟨Try.t84, ti84, rfl, rfl, rfl⟩
theorem to84 : okFs Try.prog #[{ name := "root", type := 83, offset := 0, embedded := false, tag := "", pkgPath := "bailey/tree", byteOffset := 0 }, { name := "len", type := 3, offset := 1, embedded := false, tag := "", pkgPath := "bailey/tree", byteOffset := 8 }] = true := by kernel_rfl
theorem ti85 : Try.prog.info? 85 = some Try.t85 := by kernel_rfl
theorem tz85 : ((Try.prog.info? 85).bind (·.zero)).map (·.cells) = some (List.toArray [(.pointer none), (.int .i64 0)]) := by kernel_rfl
theorem tx85 : TyI Try.prog 85 2 16 (.agg #[(.pointer none), (.int .i64 0)]) := ⟨Try.t85, ti85, rfl, rfl, rfl⟩
theorem to85 : okFs Try.prog #[{ name := "root", type := 83, offset := 0, embedded := false, tag := "", pkgPath := "bailey/tree", byteOffset := 0 }, { name := "len", type := 3, offset := 1, embedded := false, tag := "", pkgPath := "bailey/tree", byteOffset := 8 }] = true := by kernel_rfl
theorem ti86 : Try.prog.info? 86 = some Try.t86 := by kernel_rfl
theorem tz86 : ((Try.prog.info? 86).bind (·.zero)).map (·.cells) = some (List.toArray [.nilFunc]) := by kernel_rfl
theorem tx86 : TyI Try.prog 86 1 8 .nilFunc := ⟨Try.t86, ti86, rfl, rfl, rfl⟩
theorem ti87 : Try.prog.info? 87 = some Try.t87 := by kernel_rfl
theorem tz87 : ((Try.prog.info? 87).bind (·.zero)).map (·.cells) = some (List.toArray [.nilFunc]) := by kernel_rfl
theorem tx87 : TyI Try.prog 87 1 8 .nilFunc := ⟨Try.t87, ti87, rfl, rfl, rfl⟩
theorem ti88 : Try.prog.info? 88 = some Try.t88 := by kernel_rfl
theorem tz88 : ((Try.prog.info? 88).bind (·.zero)).map (·.cells) = some (List.toArray [(.slice none 0 0)]) := by kernel_rfl
theorem tx88 : TyI Try.prog 88 1 24 (.slice none 0 0) := ⟨Try.t88, ti88, rfl, rfl, rfl⟩
theorem ti89 : Try.prog.info? 89 = some Try.t89 := by kernel_rfl
theorem tz89 : ((Try.prog.info? 89).bind (·.zero)).map (·.cells) = some (List.toArray [(.slice none 0 0)]) := by kernel_rfl
theorem tx89 : TyI Try.prog 89 1 24 (.slice none 0 0) := ⟨Try.t89, ti89, rfl, rfl, rfl⟩
theorem ti90 : Try.prog.info? 90 = some Try.t90 := by kernel_rfl
theorem tz90 : ((Try.prog.info? 90).bind (·.zero)).map (·.cells) = some (List.toArray [(.slice none 0 0)]) := by kernel_rfl
theorem tx90 : TyI Try.prog 90 1 24 (.slice none 0 0) := ⟨Try.t90, ti90, rfl, rfl, rfl⟩
theorem ti91 : Try.prog.info? 91 = some Try.t91 := by kernel_rfl
theorem tz91 : ((Try.prog.info? 91).bind (·.zero)).map (·.cells) = some (List.toArray [(.slice none 0 0), (.slice none 0 0), (.slice none 0 0)]) := by kernel_rfl
theorem tx91 : TyI Try.prog 91 3 72 (.agg #[(.slice none 0 0), (.slice none 0 0), (.slice none 0 0)]) := ⟨Try.t91, ti91, rfl, rfl, rfl⟩
theorem to91 : okFs Try.prog #[{ name := "keys", type := 88, offset := 0, embedded := false, tag := "", pkgPath := "bailey/tree", byteOffset := 0 }, { name := "vals", type := 89, offset := 1, embedded := false, tag := "", pkgPath := "bailey/tree", byteOffset := 24 }, { name := "kids", type := 90, offset := 2, embedded := false, tag := "", pkgPath := "bailey/tree", byteOffset := 48 }] = true := by kernel_rfl
theorem ti92 : Try.prog.info? 92 = some Try.t92 := by kernel_rfl
theorem tz92 : ((Try.prog.info? 92).bind (·.zero)).map (·.cells) = some (List.toArray [(.slice none 0 0), (.slice none 0 0), (.slice none 0 0)]) := by kernel_rfl
theorem tx92 : TyI Try.prog 92 3 72 (.agg #[(.slice none 0 0), (.slice none 0 0), (.slice none 0 0)]) := ⟨Try.t92, ti92, rfl, rfl, rfl⟩
theorem to92 : okFs Try.prog #[{ name := "keys", type := 88, offset := 0, embedded := false, tag := "", pkgPath := "bailey/tree", byteOffset := 0 }, { name := "vals", type := 89, offset := 1, embedded := false, tag := "", pkgPath := "bailey/tree", byteOffset := 24 }, { name := "kids", type := 90, offset := 2, embedded := false, tag := "", pkgPath := "bailey/tree", byteOffset := 48 }] = true := by kernel_rfl
theorem ti93 : Try.prog.info? 93 = some Try.t93 := by kernel_rfl
theorem tz93 : ((Try.prog.info? 93).bind (·.zero)).map (·.cells) = some (List.toArray [.nilFunc]) := by kernel_rfl
theorem tx93 : TyI Try.prog 93 1 8 .nilFunc := ⟨Try.t93, ti93, rfl, rfl, rfl⟩
theorem ti94 : Try.prog.info? 94 = some Try.t94 := by kernel_rfl
theorem ti95 : Try.prog.info? 95 = some Try.t95 := by kernel_rfl
theorem tz95 : ((Try.prog.info? 95).bind (·.zero)).map (·.cells) = some (List.toArray [.nilFunc]) := by kernel_rfl
theorem tx95 : TyI Try.prog 95 1 8 .nilFunc := ⟨Try.t95, ti95, rfl, rfl, rfl⟩
theorem ti96 : Try.prog.info? 96 = some Try.t96 := by kernel_rfl
theorem ti97 : Try.prog.info? 97 = some Try.t97 := by kernel_rfl
theorem tz97 : ((Try.prog.info? 97).bind (·.zero)).map (·.cells) = some (List.toArray [.nilFunc]) := by kernel_rfl
theorem tx97 : TyI Try.prog 97 1 8 .nilFunc := ⟨Try.t97, ti97, rfl, rfl, rfl⟩
theorem ti98 : Try.prog.info? 98 = some Try.t98 := by kernel_rfl
theorem tz98 : ((Try.prog.info? 98).bind (·.zero)).map (·.cells) = some (List.toArray [.nilFunc]) := by kernel_rfl
theorem tx98 : TyI Try.prog 98 1 8 .nilFunc := ⟨Try.t98, ti98, rfl, rfl, rfl⟩
theorem ti99 : Try.prog.info? 99 = some Try.t99 := by kernel_rfl
theorem ti100 : Try.prog.info? 100 = some Try.t100 := by kernel_rfl
theorem tz100 : ((Try.prog.info? 100).bind (·.zero)).map (·.cells) = some (List.toArray [.nilFunc]) := by kernel_rfl
theorem tx100 : TyI Try.prog 100 1 8 .nilFunc := ⟨Try.t100, ti100, rfl, rfl, rfl⟩
theorem ti101 : Try.prog.info? 101 = some Try.t101 := by kernel_rfl
theorem tz101 : ((Try.prog.info? 101).bind (·.zero)).map (·.cells) = some (List.toArray [(.pointer none)]) := by kernel_rfl
theorem tx101 : TyI Try.prog 101 1 8 (.pointer none) := ⟨Try.t101, ti101, rfl, rfl, rfl⟩
theorem ti102 : Try.prog.info? 102 = some Try.t102 := by kernel_rfl
theorem tz102 : ((Try.prog.info? 102).bind (·.zero)).map (·.cells) = some (List.toArray [(.slice none 0 0), (.int .i64 0), (.int .i64 0), (.int .i64 0), (.bool false)]) := by kernel_rfl
theorem tx102 : TyI Try.prog 102 5 56 (.agg #[(.slice none 0 0), (.int .i64 0), (.int .i64 0), (.int .i64 0), (.bool false)]) := ⟨Try.t102, ti102, rfl, rfl, rfl⟩
theorem to102 : okFs Try.prog #[{ name := "list", type := 41, offset := 0, embedded := false, tag := "", pkgPath := "bailey/tree", byteOffset := 0 }, { name := "next", type := 3, offset := 1, embedded := false, tag := "", pkgPath := "bailey/tree", byteOffset := 24 }, { name := "depth", type := 3, offset := 2, embedded := false, tag := "", pkgPath := "bailey/tree", byteOffset := 32 }, { name := "count", type := 3, offset := 3, embedded := false, tag := "", pkgPath := "bailey/tree", byteOffset := 40 }, { name := "bad", type := 4, offset := 4, embedded := false, tag := "", pkgPath := "bailey/tree", byteOffset := 48 }] = true := by kernel_rfl
theorem ti103 : Try.prog.info? 103 = some Try.t103 := by kernel_rfl
theorem tz103 : ((Try.prog.info? 103).bind (·.zero)).map (·.cells) = some (List.toArray [(.slice none 0 0), (.int .i64 0), (.int .i64 0), (.int .i64 0), (.bool false)]) := by kernel_rfl
theorem tx103 : TyI Try.prog 103 5 56 (.agg #[(.slice none 0 0), (.int .i64 0), (.int .i64 0), (.int .i64 0), (.bool false)]) := ⟨Try.t103, ti103, rfl, rfl, rfl⟩
theorem to103 : okFs Try.prog #[{ name := "list", type := 41, offset := 0, embedded := false, tag := "", pkgPath := "bailey/tree", byteOffset := 0 }, { name := "next", type := 3, offset := 1, embedded := false, tag := "", pkgPath := "bailey/tree", byteOffset := 24 }, { name := "depth", type := 3, offset := 2, embedded := false, tag := "", pkgPath := "bailey/tree", byteOffset := 32 }, { name := "count", type := 3, offset := 3, embedded := false, tag := "", pkgPath := "bailey/tree", byteOffset := 40 }, { name := "bad", type := 4, offset := 4, embedded := false, tag := "", pkgPath := "bailey/tree", byteOffset := 48 }] = true := by kernel_rfl
theorem ti104 : Try.prog.info? 104 = some Try.t104 := by kernel_rfl
theorem tz104 : ((Try.prog.info? 104).bind (·.zero)).map (·.cells) = some (List.toArray [.nilFunc]) := by kernel_rfl
theorem tx104 : TyI Try.prog 104 1 8 .nilFunc := ⟨Try.t104, ti104, rfl, rfl, rfl⟩
theorem ti105 : Try.prog.info? 105 = some Try.t105 := by kernel_rfl
theorem tz105 : ((Try.prog.info? 105).bind (·.zero)).map (·.cells) = some (List.toArray [(.int .u64 0), (.int .u64 0), (.bool false), (.bool false)]) := by kernel_rfl
theorem tx105 : TyI Try.prog 105 4 24 (.agg #[(.int .u64 0), (.int .u64 0), (.bool false), (.bool false)]) := ⟨Try.t105, ti105, rfl, rfl, rfl⟩
theorem to105 : okFs Try.prog #[{ name := "low", type := 23, offset := 0, embedded := false, tag := "", pkgPath := "bailey/tree", byteOffset := 0 }, { name := "high", type := 23, offset := 1, embedded := false, tag := "", pkgPath := "bailey/tree", byteOffset := 8 }, { name := "hasLow", type := 4, offset := 2, embedded := false, tag := "", pkgPath := "bailey/tree", byteOffset := 16 }, { name := "hasHigh", type := 4, offset := 3, embedded := false, tag := "", pkgPath := "bailey/tree", byteOffset := 17 }] = true := by kernel_rfl
theorem ti106 : Try.prog.info? 106 = some Try.t106 := by kernel_rfl
theorem tz106 : ((Try.prog.info? 106).bind (·.zero)).map (·.cells) = some (List.toArray [(.int .u64 0), (.int .u64 0), (.bool false), (.bool false)]) := by kernel_rfl
theorem tx106 : TyI Try.prog 106 4 24 (.agg #[(.int .u64 0), (.int .u64 0), (.bool false), (.bool false)]) := ⟨Try.t106, ti106, rfl, rfl, rfl⟩
theorem to106 : okFs Try.prog #[{ name := "low", type := 23, offset := 0, embedded := false, tag := "", pkgPath := "bailey/tree", byteOffset := 0 }, { name := "high", type := 23, offset := 1, embedded := false, tag := "", pkgPath := "bailey/tree", byteOffset := 8 }, { name := "hasLow", type := 4, offset := 2, embedded := false, tag := "", pkgPath := "bailey/tree", byteOffset := 16 }, { name := "hasHigh", type := 4, offset := 3, embedded := false, tag := "", pkgPath := "bailey/tree", byteOffset := 17 }] = true := by kernel_rfl
theorem ti107 : Try.prog.info? 107 = some Try.t107 := by kernel_rfl
theorem tz107 : ((Try.prog.info? 107).bind (·.zero)).map (·.cells) = some (List.toArray [(.slice none 0 0), (.slice none 0 0), (.slice none 0 0)]) := by kernel_rfl
theorem tx107 : TyI Try.prog 107 3 72 (.agg #[(.slice none 0 0), (.slice none 0 0), (.slice none 0 0)]) := ⟨Try.t107, ti107, rfl, rfl, rfl⟩
theorem to107 : okFs Try.prog #[{ name := "Keys", type := 88, offset := 0, embedded := false, tag := "", pkgPath := "", byteOffset := 0 }, { name := "Vals", type := 89, offset := 1, embedded := false, tag := "", pkgPath := "", byteOffset := 24 }, { name := "Kids", type := 71, offset := 2, embedded := false, tag := "", pkgPath := "", byteOffset := 48 }] = true := by kernel_rfl
theorem ti108 : Try.prog.info? 108 = some Try.t108 := by kernel_rfl
theorem tz108 : ((Try.prog.info? 108).bind (·.zero)).map (·.cells) = some (List.toArray [(.slice none 0 0), (.slice none 0 0), (.slice none 0 0)]) := by kernel_rfl
theorem tx108 : TyI Try.prog 108 3 72 (.agg #[(.slice none 0 0), (.slice none 0 0), (.slice none 0 0)]) := ⟨Try.t108, ti108, rfl, rfl, rfl⟩
theorem to108 : okFs Try.prog #[{ name := "Keys", type := 88, offset := 0, embedded := false, tag := "", pkgPath := "", byteOffset := 0 }, { name := "Vals", type := 89, offset := 1, embedded := false, tag := "", pkgPath := "", byteOffset := 24 }, { name := "Kids", type := 71, offset := 2, embedded := false, tag := "", pkgPath := "", byteOffset := 48 }] = true := by kernel_rfl
theorem ti109 : Try.prog.info? 109 = some Try.t109 := by kernel_rfl
theorem ti110 : Try.prog.info? 110 = some Try.t110 := by kernel_rfl
theorem tz110 : ((Try.prog.info? 110).bind (·.zero)).map (·.cells) = some (List.toArray [.nilFunc]) := by kernel_rfl
theorem tx110 : TyI Try.prog 110 1 8 .nilFunc := ⟨Try.t110, ti110, rfl, rfl, rfl⟩
theorem ti111 : Try.prog.info? 111 = some Try.t111 := by kernel_rfl
theorem tz111 : ((Try.prog.info? 111).bind (·.zero)).map (·.cells) = some (List.toArray [(.slice none 0 0)]) := by kernel_rfl
theorem tx111 : TyI Try.prog 111 1 24 (.slice none 0 0) := ⟨Try.t111, ti111, rfl, rfl, rfl⟩
theorem ti112 : Try.prog.info? 112 = some Try.t112 := by kernel_rfl
theorem tz112 : ((Try.prog.info? 112).bind (·.zero)).map (·.cells) = some (List.toArray [(.slice none 0 0), (.slice none 0 0), (.int .i64 0), (.bool false)]) := by kernel_rfl
theorem tx112 : TyI Try.prog 112 4 64 (.agg #[(.slice none 0 0), (.slice none 0 0), (.int .i64 0), (.bool false)]) := ⟨Try.t112, ti112, rfl, rfl, rfl⟩
theorem to112 : okFs Try.prog #[{ name := "stable", type := 59, offset := 0, embedded := false, tag := "", pkgPath := "bailey/disk", byteOffset := 0 }, { name := "pending", type := 111, offset := 1, embedded := false, tag := "", pkgPath := "bailey/disk", byteOffset := 24 }, { name := "fuel", type := 3, offset := 2, embedded := false, tag := "", pkgPath := "bailey/disk", byteOffset := 48 }, { name := "dead", type := 4, offset := 3, embedded := false, tag := "", pkgPath := "bailey/disk", byteOffset := 56 }] = true := by kernel_rfl
theorem ti113 : Try.prog.info? 113 = some Try.t113 := by kernel_rfl
theorem tz113 : ((Try.prog.info? 113).bind (·.zero)).map (·.cells) = some (List.toArray [(.slice none 0 0), (.slice none 0 0), (.int .i64 0), (.bool false)]) := by kernel_rfl
theorem tx113 : TyI Try.prog 113 4 64 (.agg #[(.slice none 0 0), (.slice none 0 0), (.int .i64 0), (.bool false)]) := ⟨Try.t113, ti113, rfl, rfl, rfl⟩
theorem to113 : okFs Try.prog #[{ name := "stable", type := 59, offset := 0, embedded := false, tag := "", pkgPath := "bailey/disk", byteOffset := 0 }, { name := "pending", type := 111, offset := 1, embedded := false, tag := "", pkgPath := "bailey/disk", byteOffset := 24 }, { name := "fuel", type := 3, offset := 2, embedded := false, tag := "", pkgPath := "bailey/disk", byteOffset := 48 }, { name := "dead", type := 4, offset := 3, embedded := false, tag := "", pkgPath := "bailey/disk", byteOffset := 56 }] = true := by kernel_rfl
theorem ti114 : Try.prog.info? 114 = some Try.t114 := by kernel_rfl
theorem tz114 : ((Try.prog.info? 114).bind (·.zero)).map (·.cells) = some (List.toArray [.nilFunc]) := by kernel_rfl
theorem tx114 : TyI Try.prog 114 1 8 .nilFunc := ⟨Try.t114, ti114, rfl, rfl, rfl⟩
theorem ti115 : Try.prog.info? 115 = some Try.t115 := by kernel_rfl
theorem to115 : okFs Try.prog #[{ name := "sector", type := 3, offset := 0, embedded := false, tag := "", pkgPath := "bailey/disk", byteOffset := 0 }, { name := "data", type := 67, offset := 1, embedded := false, tag := "", pkgPath := "bailey/disk", byteOffset := 8 }] = true := by kernel_rfl
theorem ti116 : Try.prog.info? 116 = some Try.t116 := by kernel_rfl
theorem to116 : okFs Try.prog #[{ name := "sector", type := 3, offset := 0, embedded := false, tag := "", pkgPath := "bailey/disk", byteOffset := 0 }, { name := "data", type := 67, offset := 1, embedded := false, tag := "", pkgPath := "bailey/disk", byteOffset := 8 }] = true := by kernel_rfl
theorem ti117 : Try.prog.info? 117 = some Try.t117 := by kernel_rfl
theorem tz117 : ((Try.prog.info? 117).bind (·.zero)).map (·.cells) = some (List.toArray [.nilFunc]) := by kernel_rfl
theorem tx117 : TyI Try.prog 117 1 8 .nilFunc := ⟨Try.t117, ti117, rfl, rfl, rfl⟩
theorem ti118 : Try.prog.info? 118 = some Try.t118 := by kernel_rfl
theorem ti119 : Try.prog.info? 119 = some Try.t119 := by kernel_rfl
theorem tz119 : ((Try.prog.info? 119).bind (·.zero)).map (·.cells) = some (List.toArray [.nilFunc]) := by kernel_rfl
theorem tx119 : TyI Try.prog 119 1 8 .nilFunc := ⟨Try.t119, ti119, rfl, rfl, rfl⟩
theorem ti120 : Try.prog.info? 120 = some Try.t120 := by kernel_rfl
theorem to120 : okFs Try.prog #[{ name := "Sector", type := 3, offset := 0, embedded := false, tag := "", pkgPath := "", byteOffset := 0 }, { name := "Data", type := 67, offset := 1, embedded := false, tag := "", pkgPath := "", byteOffset := 8 }] = true := by kernel_rfl
theorem ti121 : Try.prog.info? 121 = some Try.t121 := by kernel_rfl
theorem to121 : okFs Try.prog #[{ name := "Sector", type := 3, offset := 0, embedded := false, tag := "", pkgPath := "", byteOffset := 0 }, { name := "Data", type := 67, offset := 1, embedded := false, tag := "", pkgPath := "", byteOffset := 8 }] = true := by kernel_rfl
theorem ti122 : Try.prog.info? 122 = some Try.t122 := by kernel_rfl
theorem tz122 : ((Try.prog.info? 122).bind (·.zero)).map (·.cells) = some (List.toArray [(.pointer none)]) := by kernel_rfl
theorem tx122 : TyI Try.prog 122 1 8 (.pointer none) := ⟨Try.t122, ti122, rfl, rfl, rfl⟩
theorem ti123 : Try.prog.info? 123 = some Try.t123 := by kernel_rfl
theorem tz123 : ((Try.prog.info? 123).bind (·.zero)).map (·.cells) = some (List.toArray [(.map none)]) := by kernel_rfl
theorem tx123 : TyI Try.prog 123 1 8 (.map none) := ⟨Try.t123, ti123, rfl, rfl, rfl⟩
theorem ti124 : Try.prog.info? 124 = some Try.t124 := by kernel_rfl
theorem tz124 : ((Try.prog.info? 124).bind (·.zero)).map (·.cells) = some (List.toArray [(.pointer none), (.slice none 0 0), (.slice none 0 0), (.map none)]) := by kernel_rfl
theorem tx124 : TyI Try.prog 124 4 64 (.agg #[(.pointer none), (.slice none 0 0), (.slice none 0 0), (.map none)]) := ⟨Try.t124, ti124, rfl, rfl, rfl⟩
theorem to124 : okFs Try.prog #[{ name := "Disk", type := 60, offset := 0, embedded := true, tag := "", pkgPath := "", byteOffset := 0 }, { name := "nodes", type := 41, offset := 1, embedded := false, tag := "", pkgPath := "bailey/nodes", byteOffset := 8 }, { name := "sectors", type := 71, offset := 2, embedded := false, tag := "", pkgPath := "bailey/nodes", byteOffset := 32 }, { name := "seen", type := 123, offset := 3, embedded := false, tag := "", pkgPath := "bailey/nodes", byteOffset := 56 }] = true := by kernel_rfl
theorem ti125 : Try.prog.info? 125 = some Try.t125 := by kernel_rfl
theorem tz125 : ((Try.prog.info? 125).bind (·.zero)).map (·.cells) = some (List.toArray [(.pointer none), (.slice none 0 0), (.slice none 0 0), (.map none)]) := by kernel_rfl
theorem tx125 : TyI Try.prog 125 4 64 (.agg #[(.pointer none), (.slice none 0 0), (.slice none 0 0), (.map none)]) := ⟨Try.t125, ti125, rfl, rfl, rfl⟩
theorem to125 : okFs Try.prog #[{ name := "Disk", type := 60, offset := 0, embedded := true, tag := "", pkgPath := "", byteOffset := 0 }, { name := "nodes", type := 41, offset := 1, embedded := false, tag := "", pkgPath := "bailey/nodes", byteOffset := 8 }, { name := "sectors", type := 71, offset := 2, embedded := false, tag := "", pkgPath := "bailey/nodes", byteOffset := 32 }, { name := "seen", type := 123, offset := 3, embedded := false, tag := "", pkgPath := "bailey/nodes", byteOffset := 56 }] = true := by kernel_rfl
theorem ti126 : Try.prog.info? 126 = some Try.t126 := by kernel_rfl
theorem ti127 : Try.prog.info? 127 = some Try.t127 := by kernel_rfl
theorem tz127 : ((Try.prog.info? 127).bind (·.zero)).map (·.cells) = some (List.toArray [.nilFunc]) := by kernel_rfl
theorem tx127 : TyI Try.prog 127 1 8 .nilFunc := ⟨Try.t127, ti127, rfl, rfl, rfl⟩
theorem ti128 : Try.prog.info? 128 = some Try.t128 := by kernel_rfl
theorem ti129 : Try.prog.info? 129 = some Try.t129 := by kernel_rfl
theorem tz129 : ((Try.prog.info? 129).bind (·.zero)).map (·.cells) = some (List.toArray [.nilFunc]) := by kernel_rfl
theorem tx129 : TyI Try.prog 129 1 8 .nilFunc := ⟨Try.t129, ti129, rfl, rfl, rfl⟩
theorem ti130 : Try.prog.info? 130 = some Try.t130 := by kernel_rfl
theorem tz130 : ((Try.prog.info? 130).bind (·.zero)).map (·.cells) = some (List.toArray [(.int .u64 0)]) := by kernel_rfl
theorem tx130 : TyI Try.prog 130 1 8 (.int .u64 0) := ⟨Try.t130, ti130, rfl, rfl, rfl⟩
theorem ti131 : Try.prog.info? 131 = some Try.t131 := by kernel_rfl
theorem tz131 : ((Try.prog.info? 131).bind (·.zero)).map (·.cells) = some (List.toArray [.nilFunc]) := by kernel_rfl
theorem tx131 : TyI Try.prog 131 1 8 .nilFunc := ⟨Try.t131, ti131, rfl, rfl, rfl⟩
theorem ti132 : Try.prog.info? 132 = some Try.t132 := by kernel_rfl
theorem tz132 : ((Try.prog.info? 132).bind (·.zero)).map (·.cells) = some (List.toArray [.nilFunc]) := by kernel_rfl
theorem tx132 : TyI Try.prog 132 1 8 .nilFunc := ⟨Try.t132, ti132, rfl, rfl, rfl⟩
theorem ti133 : Try.prog.info? 133 = some Try.t133 := by kernel_rfl
theorem tz133 : ((Try.prog.info? 133).bind (·.zero)).map (·.cells) = some (List.toArray [.nilFunc]) := by kernel_rfl
theorem tx133 : TyI Try.prog 133 1 8 .nilFunc := ⟨Try.t133, ti133, rfl, rfl, rfl⟩
theorem ti134 : Try.prog.info? 134 = some Try.t134 := by kernel_rfl
theorem tz134 : ((Try.prog.info? 134).bind (·.zero)).map (·.cells) = some (List.toArray [.nilFunc]) := by kernel_rfl
theorem tx134 : TyI Try.prog 134 1 8 .nilFunc := ⟨Try.t134, ti134, rfl, rfl, rfl⟩
theorem ti135 : Try.prog.info? 135 = some Try.t135 := by kernel_rfl
theorem tz135 : ((Try.prog.info? 135).bind (·.zero)).map (·.cells) = some (List.toArray [.nilFunc]) := by kernel_rfl
theorem tx135 : TyI Try.prog 135 1 8 .nilFunc := ⟨Try.t135, ti135, rfl, rfl, rfl⟩
theorem ti136 : Try.prog.info? 136 = some Try.t136 := by kernel_rfl
theorem tz136 : ((Try.prog.info? 136).bind (·.zero)).map (·.cells) = some (List.toArray [.nilFunc]) := by kernel_rfl
theorem tx136 : TyI Try.prog 136 1 8 .nilFunc := ⟨Try.t136, ti136, rfl, rfl, rfl⟩
theorem ti137 : Try.prog.info? 137 = some Try.t137 := by kernel_rfl
theorem tz137 : ((Try.prog.info? 137).bind (·.zero)).map (·.cells) = some (List.toArray [.nilFunc]) := by kernel_rfl
theorem tx137 : TyI Try.prog 137 1 8 .nilFunc := ⟨Try.t137, ti137, rfl, rfl, rfl⟩
theorem ti138 : Try.prog.info? 138 = some Try.t138 := by kernel_rfl
theorem tz138 : ((Try.prog.info? 138).bind (·.zero)).map (·.cells) = some (List.toArray [.nilFunc]) := by kernel_rfl
theorem tx138 : TyI Try.prog 138 1 8 .nilFunc := ⟨Try.t138, ti138, rfl, rfl, rfl⟩
theorem ti139 : Try.prog.info? 139 = some Try.t139 := by kernel_rfl
theorem tz139 : ((Try.prog.info? 139).bind (·.zero)).map (·.cells) = some (List.toArray [.nilFunc]) := by kernel_rfl
theorem tx139 : TyI Try.prog 139 1 8 .nilFunc := ⟨Try.t139, ti139, rfl, rfl, rfl⟩
theorem ti140 : Try.prog.info? 140 = some Try.t140 := by kernel_rfl
theorem tz140 : ((Try.prog.info? 140).bind (·.zero)).map (·.cells) = some (List.toArray [.nilFunc]) := by kernel_rfl
theorem tx140 : TyI Try.prog 140 1 8 .nilFunc := ⟨Try.t140, ti140, rfl, rfl, rfl⟩
theorem ti141 : Try.prog.info? 141 = some Try.t141 := by kernel_rfl
theorem tz141 : ((Try.prog.info? 141).bind (·.zero)).map (·.cells) = some (List.toArray [.nilFunc]) := by kernel_rfl
theorem tx141 : TyI Try.prog 141 1 8 .nilFunc := ⟨Try.t141, ti141, rfl, rfl, rfl⟩
theorem ti142 : Try.prog.info? 142 = some Try.t142 := by kernel_rfl
theorem tz142 : ((Try.prog.info? 142).bind (·.zero)).map (·.cells) = some (List.toArray [.nilFunc]) := by kernel_rfl
theorem tx142 : TyI Try.prog 142 1 8 .nilFunc := ⟨Try.t142, ti142, rfl, rfl, rfl⟩
theorem ti143 : Try.prog.info? 143 = some Try.t143 := by kernel_rfl
theorem tz143 : ((Try.prog.info? 143).bind (·.zero)).map (·.cells) = some (List.toArray [.nilFunc]) := by kernel_rfl
theorem tx143 : TyI Try.prog 143 1 8 .nilFunc := ⟨Try.t143, ti143, rfl, rfl, rfl⟩
theorem ti144 : Try.prog.info? 144 = some Try.t144 := by kernel_rfl
theorem tz144 : ((Try.prog.info? 144).bind (·.zero)).map (·.cells) = some (List.toArray [.nilFunc]) := by kernel_rfl
theorem tx144 : TyI Try.prog 144 1 8 .nilFunc := ⟨Try.t144, ti144, rfl, rfl, rfl⟩
theorem ti145 : Try.prog.info? 145 = some Try.t145 := by kernel_rfl
theorem tz145 : ((Try.prog.info? 145).bind (·.zero)).map (·.cells) = some (List.toArray [.nilFunc]) := by kernel_rfl
theorem tx145 : TyI Try.prog 145 1 8 .nilFunc := ⟨Try.t145, ti145, rfl, rfl, rfl⟩
theorem ti146 : Try.prog.info? 146 = some Try.t146 := by kernel_rfl
theorem ti147 : Try.prog.info? 147 = some Try.t147 := by kernel_rfl
theorem tz147 : ((Try.prog.info? 147).bind (·.zero)).map (·.cells) = some (List.toArray [.nilFunc]) := by kernel_rfl
theorem tx147 : TyI Try.prog 147 1 8 .nilFunc := ⟨Try.t147, ti147, rfl, rfl, rfl⟩
theorem ti148 : Try.prog.info? 148 = some Try.t148 := by kernel_rfl
theorem ti149 : Try.prog.info? 149 = some Try.t149 := by kernel_rfl
theorem tz149 : ((Try.prog.info? 149).bind (·.zero)).map (·.cells) = some (List.toArray [.nilFunc]) := by kernel_rfl
theorem tx149 : TyI Try.prog 149 1 8 .nilFunc := ⟨Try.t149, ti149, rfl, rfl, rfl⟩
theorem ti150 : Try.prog.info? 150 = some Try.t150 := by kernel_rfl
theorem tz150 : ((Try.prog.info? 150).bind (·.zero)).map (·.cells) = some (List.toArray [.nilFunc]) := by kernel_rfl
theorem tx150 : TyI Try.prog 150 1 8 .nilFunc := ⟨Try.t150, ti150, rfl, rfl, rfl⟩
theorem ti151 : Try.prog.info? 151 = some Try.t151 := by kernel_rfl
theorem tz151 : ((Try.prog.info? 151).bind (·.zero)).map (·.cells) = some (List.toArray [(.slice none 0 0)]) := by kernel_rfl
theorem tx151 : TyI Try.prog 151 1 24 (.slice none 0 0) := ⟨Try.t151, ti151, rfl, rfl, rfl⟩
theorem ti152 : Try.prog.info? 152 = some Try.t152 := by kernel_rfl
theorem tz152 : ((Try.prog.info? 152).bind (·.zero)).map (·.cells) = some (List.toArray [(.slice none 0 0)]) := by kernel_rfl
theorem tx152 : TyI Try.prog 152 1 24 (.slice none 0 0) := ⟨Try.t152, ti152, rfl, rfl, rfl⟩
theorem ti153 : Try.prog.info? 153 = some Try.t153 := by kernel_rfl
theorem tz153 : ((Try.prog.info? 153).bind (·.zero)).map (·.cells) = some (List.toArray [(.int .u64 0), (.slice none 0 0)]) := by kernel_rfl
theorem tx153 : TyI Try.prog 153 2 32 (.agg #[(.int .u64 0), (.slice none 0 0)]) := ⟨Try.t153, ti153, rfl, rfl, rfl⟩
theorem to153 : okFs Try.prog #[{ name := "Num", type := 23, offset := 0, embedded := false, tag := "", pkgPath := "", byteOffset := 0 }, { name := "Bytes", type := 152, offset := 1, embedded := false, tag := "", pkgPath := "", byteOffset := 8 }] = true := by kernel_rfl
theorem ti154 : Try.prog.info? 154 = some Try.t154 := by kernel_rfl
theorem tz154 : ((Try.prog.info? 154).bind (·.zero)).map (·.cells) = some (List.toArray [(.int .u64 0), (.slice none 0 0)]) := by kernel_rfl
theorem tx154 : TyI Try.prog 154 2 32 (.agg #[(.int .u64 0), (.slice none 0 0)]) := ⟨Try.t154, ti154, rfl, rfl, rfl⟩
theorem to154 : okFs Try.prog #[{ name := "Num", type := 23, offset := 0, embedded := false, tag := "", pkgPath := "", byteOffset := 0 }, { name := "Bytes", type := 152, offset := 1, embedded := false, tag := "", pkgPath := "", byteOffset := 8 }] = true := by kernel_rfl
theorem ti155 : Try.prog.info? 155 = some Try.t155 := by kernel_rfl
theorem tz155 : ((Try.prog.info? 155).bind (·.zero)).map (·.cells) = some (List.toArray [.nilFunc]) := by kernel_rfl
theorem tx155 : TyI Try.prog 155 1 8 .nilFunc := ⟨Try.t155, ti155, rfl, rfl, rfl⟩
theorem ti156 : Try.prog.info? 156 = some Try.t156 := by kernel_rfl
theorem tz156 : ((Try.prog.info? 156).bind (·.zero)).map (·.cells) = some (List.toArray [.nilFunc]) := by kernel_rfl
theorem tx156 : TyI Try.prog 156 1 8 .nilFunc := ⟨Try.t156, ti156, rfl, rfl, rfl⟩
theorem ti157 : Try.prog.info? 157 = some Try.t157 := by kernel_rfl
theorem ti158 : Try.prog.info? 158 = some Try.t158 := by kernel_rfl
theorem tz158 : ((Try.prog.info? 158).bind (·.zero)).map (·.cells) = some (List.toArray [.nilFunc]) := by kernel_rfl
theorem tx158 : TyI Try.prog 158 1 8 .nilFunc := ⟨Try.t158, ti158, rfl, rfl, rfl⟩
theorem ti159 : Try.prog.info? 159 = some Try.t159 := by kernel_rfl
theorem tz159 : ((Try.prog.info? 159).bind (·.zero)).map (·.cells) = some (List.toArray [.nilFunc]) := by kernel_rfl
theorem tx159 : TyI Try.prog 159 1 8 .nilFunc := ⟨Try.t159, ti159, rfl, rfl, rfl⟩
theorem ti160 : Try.prog.info? 160 = some Try.t160 := by kernel_rfl
theorem tz160 : ((Try.prog.info? 160).bind (·.zero)).map (·.cells) = some (List.toArray [.nilFunc]) := by kernel_rfl
theorem tx160 : TyI Try.prog 160 1 8 .nilFunc := ⟨Try.t160, ti160, rfl, rfl, rfl⟩
theorem ti161 : Try.prog.info? 161 = some Try.t161 := by kernel_rfl
theorem tz161 : ((Try.prog.info? 161).bind (·.zero)).map (·.cells) = some (List.toArray [.nilFunc]) := by kernel_rfl
theorem tx161 : TyI Try.prog 161 1 8 .nilFunc := ⟨Try.t161, ti161, rfl, rfl, rfl⟩
theorem ti162 : Try.prog.info? 162 = some Try.t162 := by kernel_rfl
theorem tz162 : ((Try.prog.info? 162).bind (·.zero)).map (·.cells) = some (List.toArray [.nilFunc]) := by kernel_rfl
theorem tx162 : TyI Try.prog 162 1 8 .nilFunc := ⟨Try.t162, ti162, rfl, rfl, rfl⟩
theorem ti163 : Try.prog.info? 163 = some Try.t163 := by kernel_rfl
theorem tz163 : ((Try.prog.info? 163).bind (·.zero)).map (·.cells) = some (List.toArray [.nilFunc]) := by kernel_rfl
theorem tx163 : TyI Try.prog 163 1 8 .nilFunc := ⟨Try.t163, ti163, rfl, rfl, rfl⟩
theorem ti164 : Try.prog.info? 164 = some Try.t164 := by kernel_rfl
theorem tz164 : ((Try.prog.info? 164).bind (·.zero)).map (·.cells) = some (List.toArray [.nilFunc]) := by kernel_rfl
theorem tx164 : TyI Try.prog 164 1 8 .nilFunc := ⟨Try.t164, ti164, rfl, rfl, rfl⟩
theorem ti165 : Try.prog.info? 165 = some Try.t165 := by kernel_rfl
theorem tz165 : ((Try.prog.info? 165).bind (·.zero)).map (·.cells) = some (List.toArray [.nilFunc]) := by kernel_rfl
theorem tx165 : TyI Try.prog 165 1 8 .nilFunc := ⟨Try.t165, ti165, rfl, rfl, rfl⟩
theorem ti166 : Try.prog.info? 166 = some Try.t166 := by kernel_rfl
theorem tz166 : ((Try.prog.info? 166).bind (·.zero)).map (·.cells) = some (List.toArray [.nilFunc]) := by kernel_rfl
theorem tx166 : TyI Try.prog 166 1 8 .nilFunc := ⟨Try.t166, ti166, rfl, rfl, rfl⟩
theorem ti167 : Try.prog.info? 167 = some Try.t167 := by kernel_rfl
theorem tz167 : ((Try.prog.info? 167).bind (·.zero)).map (·.cells) = some (List.toArray [.nilFunc]) := by kernel_rfl
theorem tx167 : TyI Try.prog 167 1 8 .nilFunc := ⟨Try.t167, ti167, rfl, rfl, rfl⟩
theorem ti168 : Try.prog.info? 168 = some Try.t168 := by kernel_rfl
theorem tz168 : ((Try.prog.info? 168).bind (·.zero)).map (·.cells) = some (List.toArray [.nilFunc]) := by kernel_rfl
theorem tx168 : TyI Try.prog 168 1 8 .nilFunc := ⟨Try.t168, ti168, rfl, rfl, rfl⟩
theorem ti169 : Try.prog.info? 169 = some Try.t169 := by kernel_rfl
theorem tz169 : ((Try.prog.info? 169).bind (·.zero)).map (·.cells) = some (List.toArray [.nilFunc]) := by kernel_rfl
theorem tx169 : TyI Try.prog 169 1 8 .nilFunc := ⟨Try.t169, ti169, rfl, rfl, rfl⟩
theorem ti170 : Try.prog.info? 170 = some Try.t170 := by kernel_rfl
theorem ti171 : Try.prog.info? 171 = some Try.t171 := by kernel_rfl
theorem tz171 : ((Try.prog.info? 171).bind (·.zero)).map (·.cells) = some (List.toArray [.nilFunc]) := by kernel_rfl
theorem tx171 : TyI Try.prog 171 1 8 .nilFunc := ⟨Try.t171, ti171, rfl, rfl, rfl⟩
theorem ti172 : Try.prog.info? 172 = some Try.t172 := by kernel_rfl
theorem tz172 : ((Try.prog.info? 172).bind (·.zero)).map (·.cells) = some (List.toArray [.nilFunc]) := by kernel_rfl
theorem tx172 : TyI Try.prog 172 1 8 .nilFunc := ⟨Try.t172, ti172, rfl, rfl, rfl⟩
theorem ti173 : Try.prog.info? 173 = some Try.t173 := by kernel_rfl
theorem ti174 : Try.prog.info? 174 = some Try.t174 := by kernel_rfl
theorem tz174 : ((Try.prog.info? 174).bind (·.zero)).map (·.cells) = some (List.toArray [.nilFunc]) := by kernel_rfl
theorem tx174 : TyI Try.prog 174 1 8 .nilFunc := ⟨Try.t174, ti174, rfl, rfl, rfl⟩
theorem ti175 : Try.prog.info? 175 = some Try.t175 := by kernel_rfl
theorem ti176 : Try.prog.info? 176 = some Try.t176 := by kernel_rfl
theorem tz176 : ((Try.prog.info? 176).bind (·.zero)).map (·.cells) = some (List.toArray [.nilFunc]) := by kernel_rfl
theorem tx176 : TyI Try.prog 176 1 8 .nilFunc := ⟨Try.t176, ti176, rfl, rfl, rfl⟩
theorem ti177 : Try.prog.info? 177 = some Try.t177 := by kernel_rfl
theorem tz177 : ((Try.prog.info? 177).bind (·.zero)).map (·.cells) = some (List.toArray [.nilFunc]) := by kernel_rfl
theorem tx177 : TyI Try.prog 177 1 8 .nilFunc := ⟨Try.t177, ti177, rfl, rfl, rfl⟩
theorem ti178 : Try.prog.info? 178 = some Try.t178 := by kernel_rfl
theorem tz178 : ((Try.prog.info? 178).bind (·.zero)).map (·.cells) = some (List.toArray [(.pointer none)]) := by kernel_rfl
theorem tx178 : TyI Try.prog 178 1 8 (.pointer none) := ⟨Try.t178, ti178, rfl, rfl, rfl⟩
theorem ti179 : Try.prog.info? 179 = some Try.t179 := by kernel_rfl
theorem tz179 : ((Try.prog.info? 179).bind (·.zero)).map (·.cells) = some (List.toArray [(.pointer none), (.slice none 0 0)]) := by kernel_rfl
theorem tx179 : TyI Try.prog 179 2 32 (.agg #[(.pointer none), (.slice none 0 0)]) := ⟨Try.t179, ti179, rfl, rfl, rfl⟩
theorem to179 : okFs Try.prog #[{ name := "addr", type := 178, offset := 0, embedded := false, tag := "", pkgPath := "strings", byteOffset := 0 }, { name := "buf", type := 152, offset := 1, embedded := false, tag := "", pkgPath := "strings", byteOffset := 8 }] = true := by kernel_rfl
theorem ti180 : Try.prog.info? 180 = some Try.t180 := by kernel_rfl
theorem tz180 : ((Try.prog.info? 180).bind (·.zero)).map (·.cells) = some (List.toArray [(.pointer none), (.slice none 0 0)]) := by kernel_rfl
theorem tx180 : TyI Try.prog 180 2 32 (.agg #[(.pointer none), (.slice none 0 0)]) := ⟨Try.t180, ti180, rfl, rfl, rfl⟩
theorem to180 : okFs Try.prog #[{ name := "addr", type := 178, offset := 0, embedded := false, tag := "", pkgPath := "strings", byteOffset := 0 }, { name := "buf", type := 152, offset := 1, embedded := false, tag := "", pkgPath := "strings", byteOffset := 8 }] = true := by kernel_rfl
theorem ti181 : Try.prog.info? 181 = some Try.t181 := by kernel_rfl
theorem tz181 : ((Try.prog.info? 181).bind (·.zero)).map (·.cells) = some (List.toArray [.nilIface]) := by kernel_rfl
theorem tx181 : TyI Try.prog 181 1 16 .nilIface := ⟨Try.t181, ti181, rfl, rfl, rfl⟩
theorem ti182 : Try.prog.info? 182 = some Try.t182 := by kernel_rfl
theorem tz182 : ((Try.prog.info? 182).bind (·.zero)).map (·.cells) = some (List.toArray [.nilIface]) := by kernel_rfl
theorem tx182 : TyI Try.prog 182 1 16 .nilIface := ⟨Try.t182, ti182, rfl, rfl, rfl⟩
theorem ti183 : Try.prog.info? 183 = some Try.t183 := by kernel_rfl
theorem ti184 : Try.prog.info? 184 = some Try.t184 := by kernel_rfl
theorem tz184 : ((Try.prog.info? 184).bind (·.zero)).map (·.cells) = some (List.toArray [.nilFunc]) := by kernel_rfl
theorem tx184 : TyI Try.prog 184 1 8 .nilFunc := ⟨Try.t184, ti184, rfl, rfl, rfl⟩
theorem ti185 : Try.prog.info? 185 = some Try.t185 := by kernel_rfl
theorem tz185 : ((Try.prog.info? 185).bind (·.zero)).map (·.cells) = some (List.toArray [.nilFunc]) := by kernel_rfl
theorem tx185 : TyI Try.prog 185 1 8 .nilFunc := ⟨Try.t185, ti185, rfl, rfl, rfl⟩
theorem ti186 : Try.prog.info? 186 = some Try.t186 := by kernel_rfl
theorem tz186 : ((Try.prog.info? 186).bind (·.zero)).map (·.cells) = some (List.toArray [.nilFunc]) := by kernel_rfl
theorem tx186 : TyI Try.prog 186 1 8 .nilFunc := ⟨Try.t186, ti186, rfl, rfl, rfl⟩
theorem ti187 : Try.prog.info? 187 = some Try.t187 := by kernel_rfl
theorem tz187 : ((Try.prog.info? 187).bind (·.zero)).map (·.cells) = some (List.toArray [(.pointer none)]) := by kernel_rfl
theorem tx187 : TyI Try.prog 187 1 8 (.pointer none) := ⟨Try.t187, ti187, rfl, rfl, rfl⟩
theorem ti188 : Try.prog.info? 188 = some Try.t188 := by kernel_rfl
theorem tz188 : ((Try.prog.info? 188).bind (·.zero)).map (·.cells) = some (List.toArray [.nilFunc]) := by kernel_rfl
theorem tx188 : TyI Try.prog 188 1 8 .nilFunc := ⟨Try.t188, ti188, rfl, rfl, rfl⟩
theorem ti189 : Try.prog.info? 189 = some Try.t189 := by kernel_rfl
theorem tz189 : ((Try.prog.info? 189).bind (·.zero)).map (·.cells) = some (List.toArray [(.slice none 0 0)]) := by kernel_rfl
theorem tx189 : TyI Try.prog 189 1 24 (.slice none 0 0) := ⟨Try.t189, ti189, rfl, rfl, rfl⟩
theorem ti190 : Try.prog.info? 190 = some Try.t190 := by kernel_rfl
theorem tz190 : ((Try.prog.info? 190).bind (·.zero)).map (·.cells) = some (List.toArray [.nilFunc]) := by kernel_rfl
theorem tx190 : TyI Try.prog 190 1 8 .nilFunc := ⟨Try.t190, ti190, rfl, rfl, rfl⟩
theorem ti191 : Try.prog.info? 191 = some Try.t191 := by kernel_rfl
theorem tz191 : ((Try.prog.info? 191).bind (·.zero)).map (·.cells) = some (List.toArray [(.slice none 0 0)]) := by kernel_rfl
theorem tx191 : TyI Try.prog 191 1 24 (.slice none 0 0) := ⟨Try.t191, ti191, rfl, rfl, rfl⟩
theorem ti192 : Try.prog.info? 192 = some Try.t192 := by kernel_rfl
theorem tz192 : ((Try.prog.info? 192).bind (·.zero)).map (·.cells) = some (List.toArray [.nilFunc]) := by kernel_rfl
theorem tx192 : TyI Try.prog 192 1 8 .nilFunc := ⟨Try.t192, ti192, rfl, rfl, rfl⟩
theorem ti193 : Try.prog.info? 193 = some Try.t193 := by kernel_rfl
theorem tz193 : ((Try.prog.info? 193).bind (·.zero)).map (·.cells) = some (List.toArray [.nilFunc]) := by kernel_rfl
theorem tx193 : TyI Try.prog 193 1 8 .nilFunc := ⟨Try.t193, ti193, rfl, rfl, rfl⟩
theorem ti194 : Try.prog.info? 194 = some Try.t194 := by kernel_rfl
theorem tz194 : ((Try.prog.info? 194).bind (·.zero)).map (·.cells) = some (List.toArray [.nilFunc]) := by kernel_rfl
theorem tx194 : TyI Try.prog 194 1 8 .nilFunc := ⟨Try.t194, ti194, rfl, rfl, rfl⟩
theorem ti195 : Try.prog.info? 195 = some Try.t195 := by kernel_rfl
theorem tz195 : ((Try.prog.info? 195).bind (·.zero)).map (·.cells) = some (List.toArray [.nilFunc]) := by kernel_rfl
theorem tx195 : TyI Try.prog 195 1 8 .nilFunc := ⟨Try.t195, ti195, rfl, rfl, rfl⟩
theorem ti196 : Try.prog.info? 196 = some Try.t196 := by kernel_rfl
theorem tz196 : ((Try.prog.info? 196).bind (·.zero)).map (·.cells) = some (List.toArray [(.int .u32 0)]) := by kernel_rfl
theorem tx196 : TyI Try.prog 196 1 4 (.int .u32 0) := ⟨Try.t196, ti196, rfl, rfl, rfl⟩
theorem ti197 : Try.prog.info? 197 = some Try.t197 := by kernel_rfl
theorem ti198 : Try.prog.info? 198 = some Try.t198 := by kernel_rfl
theorem tz198 : ((Try.prog.info? 198).bind (·.zero)).map (·.cells) = some (List.toArray [.nilFunc]) := by kernel_rfl
theorem tx198 : TyI Try.prog 198 1 8 .nilFunc := ⟨Try.t198, ti198, rfl, rfl, rfl⟩
theorem ti199 : Try.prog.info? 199 = some Try.t199 := by kernel_rfl
theorem ti200 : Try.prog.info? 200 = some Try.t200 := by kernel_rfl
theorem tz200 : ((Try.prog.info? 200).bind (·.zero)).map (·.cells) = some (List.toArray [.nilFunc]) := by kernel_rfl
theorem tx200 : TyI Try.prog 200 1 8 .nilFunc := ⟨Try.t200, ti200, rfl, rfl, rfl⟩
theorem ti201 : Try.prog.info? 201 = some Try.t201 := by kernel_rfl
theorem tz201 : ((Try.prog.info? 201).bind (·.zero)).map (·.cells) = some (List.toArray [(.pointer none)]) := by kernel_rfl
theorem tx201 : TyI Try.prog 201 1 8 (.pointer none) := ⟨Try.t201, ti201, rfl, rfl, rfl⟩
theorem ti202 : Try.prog.info? 202 = some Try.t202 := by kernel_rfl
theorem tz202 : ((Try.prog.info? 202).bind (·.zero)).map (·.cells) = some (List.toArray [.nilFunc]) := by kernel_rfl
theorem tx202 : TyI Try.prog 202 1 8 .nilFunc := ⟨Try.t202, ti202, rfl, rfl, rfl⟩
theorem ti203 : Try.prog.info? 203 = some Try.t203 := by kernel_rfl
theorem tz203 : ((Try.prog.info? 203).bind (·.zero)).map (·.cells) = some (List.toArray [.nilFunc]) := by kernel_rfl
theorem tx203 : TyI Try.prog 203 1 8 .nilFunc := ⟨Try.t203, ti203, rfl, rfl, rfl⟩
theorem ti204 : Try.prog.info? 204 = some Try.t204 := by kernel_rfl
theorem tz204 : ((Try.prog.info? 204).bind (·.zero)).map (·.cells) = some (List.toArray [.nilFunc]) := by kernel_rfl
theorem tx204 : TyI Try.prog 204 1 8 .nilFunc := ⟨Try.t204, ti204, rfl, rfl, rfl⟩
theorem ti205 : Try.prog.info? 205 = some Try.t205 := by kernel_rfl
theorem tz205 : ((Try.prog.info? 205).bind (·.zero)).map (·.cells) = some (List.toArray [.nilFunc]) := by kernel_rfl
theorem tx205 : TyI Try.prog 205 1 8 .nilFunc := ⟨Try.t205, ti205, rfl, rfl, rfl⟩
theorem ti206 : Try.prog.info? 206 = some Try.t206 := by kernel_rfl
theorem tz206 : ((Try.prog.info? 206).bind (·.zero)).map (·.cells) = some (List.toArray [.nilFunc]) := by kernel_rfl
theorem tx206 : TyI Try.prog 206 1 8 .nilFunc := ⟨Try.t206, ti206, rfl, rfl, rfl⟩
theorem ti207 : Try.prog.info? 207 = some Try.t207 := by kernel_rfl
theorem tz207 : ((Try.prog.info? 207).bind (·.zero)).map (·.cells) = some (List.toArray [(.pointer none)]) := by kernel_rfl
theorem tx207 : TyI Try.prog 207 1 8 (.pointer none) := ⟨Try.t207, ti207, rfl, rfl, rfl⟩
theorem ti208 : Try.prog.info? 208 = some Try.t208 := by kernel_rfl
theorem tz208 : ((Try.prog.info? 208).bind (·.zero)).map (·.cells) = some (List.toArray [(.slice none 0 0)]) := by kernel_rfl
theorem tx208 : TyI Try.prog 208 1 24 (.agg #[(.slice none 0 0)]) := ⟨Try.t208, ti208, rfl, rfl, rfl⟩
theorem to208 : okFs Try.prog #[{ name := "b", type := 152, offset := 0, embedded := false, tag := "", pkgPath := "bailey/codec", byteOffset := 0 }] = true := by kernel_rfl
theorem ti209 : Try.prog.info? 209 = some Try.t209 := by kernel_rfl
theorem tz209 : ((Try.prog.info? 209).bind (·.zero)).map (·.cells) = some (List.toArray [(.slice none 0 0)]) := by kernel_rfl
theorem tx209 : TyI Try.prog 209 1 24 (.agg #[(.slice none 0 0)]) := ⟨Try.t209, ti209, rfl, rfl, rfl⟩
theorem to209 : okFs Try.prog #[{ name := "b", type := 152, offset := 0, embedded := false, tag := "", pkgPath := "bailey/codec", byteOffset := 0 }] = true := by kernel_rfl
theorem ti210 : Try.prog.info? 210 = some Try.t210 := by kernel_rfl
theorem tz210 : ((Try.prog.info? 210).bind (·.zero)).map (·.cells) = some (List.toArray [.nilFunc]) := by kernel_rfl
theorem tx210 : TyI Try.prog 210 1 8 .nilFunc := ⟨Try.t210, ti210, rfl, rfl, rfl⟩
theorem ti211 : Try.prog.info? 211 = some Try.t211 := by kernel_rfl
theorem tz211 : ((Try.prog.info? 211).bind (·.zero)).map (·.cells) = some (List.toArray [.nilFunc]) := by kernel_rfl
theorem tx211 : TyI Try.prog 211 1 8 .nilFunc := ⟨Try.t211, ti211, rfl, rfl, rfl⟩
theorem ti212 : Try.prog.info? 212 = some Try.t212 := by kernel_rfl
theorem tz212 : ((Try.prog.info? 212).bind (·.zero)).map (·.cells) = some (List.toArray [(.pointer none)]) := by kernel_rfl
theorem tx212 : TyI Try.prog 212 1 8 (.pointer none) := ⟨Try.t212, ti212, rfl, rfl, rfl⟩
theorem ti213 : Try.prog.info? 213 = some Try.t213 := by kernel_rfl
theorem tz213 : ((Try.prog.info? 213).bind (·.zero)).map (·.cells) = some (List.toArray [.nilFunc]) := by kernel_rfl
theorem tx213 : TyI Try.prog 213 1 8 .nilFunc := ⟨Try.t213, ti213, rfl, rfl, rfl⟩
theorem ti214 : Try.prog.info? 214 = some Try.t214 := by kernel_rfl
theorem tz214 : ((Try.prog.info? 214).bind (·.zero)).map (·.cells) = some (List.toArray [(.pointer none), (.pointer none), (.pointer none), (.string ByteArray.empty)]) := by kernel_rfl
theorem tx214 : TyI Try.prog 214 4 40 (.agg #[(.pointer none), (.pointer none), (.pointer none), (.string ByteArray.empty)]) := ⟨Try.t214, ti214, rfl, rfl, rfl⟩
theorem to214 : okFs Try.prog #[{ name := "_interface", type := 17, offset := 0, embedded := false, tag := "", pkgPath := "runtime", byteOffset := 0 }, { name := "concrete", type := 17, offset := 1, embedded := false, tag := "", pkgPath := "runtime", byteOffset := 8 }, { name := "asserted", type := 17, offset := 2, embedded := false, tag := "", pkgPath := "runtime", byteOffset := 16 }, { name := "missingMethod", type := 9, offset := 3, embedded := false, tag := "", pkgPath := "runtime", byteOffset := 24 }] = true := by kernel_rfl
theorem ti215 : Try.prog.info? 215 = some Try.t215 := by kernel_rfl
theorem tz215 : ((Try.prog.info? 215).bind (·.zero)).map (·.cells) = some (List.toArray [(.pointer none), (.pointer none), (.pointer none), (.string ByteArray.empty)]) := by kernel_rfl
theorem tx215 : TyI Try.prog 215 4 40 (.agg #[(.pointer none), (.pointer none), (.pointer none), (.string ByteArray.empty)]) := ⟨Try.t215, ti215, rfl, rfl, rfl⟩
theorem to215 : okFs Try.prog #[{ name := "_interface", type := 17, offset := 0, embedded := false, tag := "", pkgPath := "runtime", byteOffset := 0 }, { name := "concrete", type := 17, offset := 1, embedded := false, tag := "", pkgPath := "runtime", byteOffset := 8 }, { name := "asserted", type := 17, offset := 2, embedded := false, tag := "", pkgPath := "runtime", byteOffset := 16 }, { name := "missingMethod", type := 9, offset := 3, embedded := false, tag := "", pkgPath := "runtime", byteOffset := 24 }] = true := by kernel_rfl
theorem ti216 : Try.prog.info? 216 = some Try.t216 := by kernel_rfl
theorem tz216 : ((Try.prog.info? 216).bind (·.zero)).map (·.cells) = some (List.toArray []) := by kernel_rfl
theorem tx216 : TyI Try.prog 216 0 0 (.agg #[]) := ⟨Try.t216, ti216, rfl, rfl, rfl⟩
theorem ti217 : Try.prog.info? 217 = some Try.t217 := by kernel_rfl
theorem tz217 : ((Try.prog.info? 217).bind (·.zero)).map (·.cells) = some (List.toArray []) := by kernel_rfl
theorem tx217 : TyI Try.prog 217 0 0 (.agg #[]) := ⟨Try.t217, ti217, rfl, rfl, rfl⟩
theorem to217 : okFs Try.prog #[{ name := "_", type := 216, offset := 0, embedded := false, tag := "", pkgPath := "runtime", byteOffset := 0 }] = true := by kernel_rfl
theorem ti218 : Try.prog.info? 218 = some Try.t218 := by kernel_rfl
theorem tz218 : ((Try.prog.info? 218).bind (·.zero)).map (·.cells) = some (List.toArray []) := by kernel_rfl
theorem tx218 : TyI Try.prog 218 0 0 (.agg #[]) := ⟨Try.t218, ti218, rfl, rfl, rfl⟩
theorem to218 : okFs Try.prog #[{ name := "_", type := 216, offset := 0, embedded := false, tag := "", pkgPath := "runtime", byteOffset := 0 }] = true := by kernel_rfl
theorem ti219 : Try.prog.info? 219 = some Try.t219 := by kernel_rfl
theorem tz219 : ((Try.prog.info? 219).bind (·.zero)).map (·.cells) = some (List.toArray [(.int .u8 0)]) := by kernel_rfl
theorem tx219 : TyI Try.prog 219 1 1 (.int .u8 0) := ⟨Try.t219, ti219, rfl, rfl, rfl⟩
theorem ti220 : Try.prog.info? 220 = some Try.t220 := by kernel_rfl
theorem tz220 : ((Try.prog.info? 220).bind (·.zero)).map (·.cells) = some (List.toArray [(.int .u8 0)]) := by kernel_rfl
theorem tx220 : TyI Try.prog 220 1 1 (.int .u8 0) := ⟨Try.t220, ti220, rfl, rfl, rfl⟩
theorem ti221 : Try.prog.info? 221 = some Try.t221 := by kernel_rfl
theorem tz221 : ((Try.prog.info? 221).bind (·.zero)).map (·.cells) = some (List.toArray [.nilFunc]) := by kernel_rfl
theorem tx221 : TyI Try.prog 221 1 8 .nilFunc := ⟨Try.t221, ti221, rfl, rfl, rfl⟩
theorem ti222 : Try.prog.info? 222 = some Try.t222 := by kernel_rfl
theorem tz222 : ((Try.prog.info? 222).bind (·.zero)).map (·.cells) = some (List.toArray [(.int .i32 0)]) := by kernel_rfl
theorem tx222 : TyI Try.prog 222 1 4 (.int .i32 0) := ⟨Try.t222, ti222, rfl, rfl, rfl⟩
theorem ti223 : Try.prog.info? 223 = some Try.t223 := by kernel_rfl
theorem tz223 : ((Try.prog.info? 223).bind (·.zero)).map (·.cells) = some (List.toArray [(.int .i32 0)]) := by kernel_rfl
theorem tx223 : TyI Try.prog 223 1 4 (.int .i32 0) := ⟨Try.t223, ti223, rfl, rfl, rfl⟩
theorem ti224 : Try.prog.info? 224 = some Try.t224 := by kernel_rfl
theorem tz224 : ((Try.prog.info? 224).bind (·.zero)).map (·.cells) = some (List.toArray [(.int .u64 0), (.int .u64 0), (.int .u32 0), (.int .u8 0), (.int .u8 0), (.int .u8 0), (.int .u8 0), .nilFunc, (.pointer none), (.int .i32 0), (.int .i32 0)]) := by kernel_rfl
theorem tx224 : TyI Try.prog 224 11 48 (.agg #[(.int .u64 0), (.int .u64 0), (.int .u32 0), (.int .u8 0), (.int .u8 0), (.int .u8 0), (.int .u8 0), .nilFunc, (.pointer none), (.int .i32 0), (.int .i32 0)]) := ⟨Try.t224, ti224, rfl, rfl, rfl⟩
theorem to224 : okFs Try.prog #[{ name := "Size_", type := 12, offset := 0, embedded := false, tag := "", pkgPath := "", byteOffset := 0 }, { name := "PtrBytes", type := 12, offset := 1, embedded := false, tag := "", pkgPath := "", byteOffset := 8 }, { name := "Hash", type := 196, offset := 2, embedded := false, tag := "", pkgPath := "", byteOffset := 16 }, { name := "TFlag", type := 219, offset := 3, embedded := false, tag := "", pkgPath := "", byteOffset := 20 }, { name := "Align_", type := 5, offset := 4, embedded := false, tag := "", pkgPath := "", byteOffset := 21 }, { name := "FieldAlign_", type := 5, offset := 5, embedded := false, tag := "", pkgPath := "", byteOffset := 22 }, { name := "Kind_", type := 220, offset := 6, embedded := false, tag := "", pkgPath := "", byteOffset := 23 }, { name := "Equal", type := 221, offset := 7, embedded := false, tag := "", pkgPath := "", byteOffset := 24 }, { name := "GCData", type := 201, offset := 8, embedded := false, tag := "", pkgPath := "", byteOffset := 32 }, { name := "Str", type := 222, offset := 9, embedded := false, tag := "", pkgPath := "", byteOffset := 40 }, { name := "PtrToThis", type := 223, offset := 10, embedded := false, tag := "", pkgPath := "", byteOffset := 44 }] = true := by kernel_rfl
theorem ti225 : Try.prog.info? 225 = some Try.t225 := by kernel_rfl
theorem tz225 : ((Try.prog.info? 225).bind (·.zero)).map (·.cells) = some (List.toArray [(.int .u64 0), (.int .u64 0), (.int .u32 0), (.int .u8 0), (.int .u8 0), (.int .u8 0), (.int .u8 0), .nilFunc, (.pointer none), (.int .i32 0), (.int .i32 0)]) := by kernel_rfl
theorem tx225 : TyI Try.prog 225 11 48 (.agg #[(.int .u64 0), (.int .u64 0), (.int .u32 0), (.int .u8 0), (.int .u8 0), (.int .u8 0), (.int .u8 0), .nilFunc, (.pointer none), (.int .i32 0), (.int .i32 0)]) := ⟨Try.t225, ti225, rfl, rfl, rfl⟩
theorem to225 : okFs Try.prog #[{ name := "Size_", type := 12, offset := 0, embedded := false, tag := "", pkgPath := "", byteOffset := 0 }, { name := "PtrBytes", type := 12, offset := 1, embedded := false, tag := "", pkgPath := "", byteOffset := 8 }, { name := "Hash", type := 196, offset := 2, embedded := false, tag := "", pkgPath := "", byteOffset := 16 }, { name := "TFlag", type := 219, offset := 3, embedded := false, tag := "", pkgPath := "", byteOffset := 20 }, { name := "Align_", type := 5, offset := 4, embedded := false, tag := "", pkgPath := "", byteOffset := 21 }, { name := "FieldAlign_", type := 5, offset := 5, embedded := false, tag := "", pkgPath := "", byteOffset := 22 }, { name := "Kind_", type := 220, offset := 6, embedded := false, tag := "", pkgPath := "", byteOffset := 23 }, { name := "Equal", type := 221, offset := 7, embedded := false, tag := "", pkgPath := "", byteOffset := 24 }, { name := "GCData", type := 201, offset := 8, embedded := false, tag := "", pkgPath := "", byteOffset := 32 }, { name := "Str", type := 222, offset := 9, embedded := false, tag := "", pkgPath := "", byteOffset := 40 }, { name := "PtrToThis", type := 223, offset := 10, embedded := false, tag := "", pkgPath := "", byteOffset := 44 }] = true := by kernel_rfl
theorem Try.mixed : Try.prog.follows .mixedOrders = true := by kernel_rfl
end Go.Proofs.Ytdglignjoojimaa
