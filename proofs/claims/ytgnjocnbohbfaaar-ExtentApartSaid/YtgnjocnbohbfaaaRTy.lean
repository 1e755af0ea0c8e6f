/- What the seat's program says of its types, in the forms that the walk asks. No conditions. -/
import Derived.Test.YtgnjocnbohbfaaaRSx
import Derived.Test.YtgnjocnbohbfaaaRProg
namespace Go.Proofs.YtgnjocnbohbfaaaR
theorem ti0 : Try.prog.info? 0 = some Try.t0 := by kernel_rfl
theorem ti1 : Try.prog.info? 1 = some Try.t1 := by kernel_rfl
theorem tz1 : ((Try.prog.info? 1).bind (·.zero)).map (·.cells) = some (List.toArray [.nilFunc]) := by kernel_rfl
theorem tx1 : TyI Try.prog 1 1 8 .nilFunc := ⟨Try.t1, ti1, rfl, rfl, rfl⟩
theorem ti2 : Try.prog.info? 2 = some Try.t2 := by kernel_rfl
theorem tz2 : ((Try.prog.info? 2).bind (·.zero)).map (·.cells) = some (List.toArray [(.int .i64 0)]) := by kernel_rfl
theorem tx2 : TyI Try.prog 2 1 8 (.int .i64 0) := ⟨Try.t2, ti2, rfl, rfl, rfl⟩
theorem ti3 : Try.prog.info? 3 = some Try.t3 := by kernel_rfl
theorem tz3 : ((Try.prog.info? 3).bind (·.zero)).map (·.cells) = some (List.toArray [(.int .i64 0)]) := by kernel_rfl
theorem tx3 : TyI Try.prog 3 1 8 (.int .i64 0) := ⟨Try.t3, ti3, rfl, rfl, rfl⟩
theorem ti4 : Try.prog.info? 4 = some Try.t4 := by kernel_rfl
theorem tz4 : ((Try.prog.info? 4).bind (·.zero)).map (·.cells) = some (List.toArray [(.bool false)]) := by kernel_rfl
theorem tx4 : TyI Try.prog 4 1 1 (.bool false) := ⟨Try.t4, ti4, rfl, rfl, rfl⟩
theorem ti5 : Try.prog.info? 5 = some Try.t5 := by kernel_rfl
theorem tz5 : ((Try.prog.info? 5).bind (·.zero)).map (·.cells) = some (List.toArray [(.int .u8 0)]) := by kernel_rfl
theorem tx5 : TyI Try.prog 5 1 1 (.int .u8 0) := ⟨Try.t5, ti5, rfl, rfl, rfl⟩
theorem ti6 : Try.prog.info? 6 = some Try.t6 := by kernel_rfl
theorem tz6 : ((Try.prog.info? 6).bind (·.zero)).map (·.cells) = some (List.toArray [(.int .u8 0)]) := by kernel_rfl
theorem tx6 : TyI Try.prog 6 1 1 (.int .u8 0) := ⟨Try.t6, ti6, rfl, rfl, rfl⟩
theorem ti7 : Try.prog.info? 7 = some Try.t7 := by kernel_rfl
theorem tz7 : ((Try.prog.info? 7).bind (·.zero)).map (·.cells) = some (List.toArray [(.int .i64 0), (.int .i64 0), (.bool false), (.int .u8 0)]) := by kernel_rfl
theorem tx7 : TyI Try.prog 7 4 24 (.agg #[(.int .i64 0), (.int .i64 0), (.bool false), (.int .u8 0)]) := ⟨Try.t7, ti7, rfl, rfl, rfl⟩
theorem to7 : okFs Try.prog #[{ name := "x", type := 2, offset := 0, embedded := false, tag := "", pkgPath := "runtime", byteOffset := 0 }, { name := "y", type := 3, offset := 1, embedded := false, tag := "", pkgPath := "runtime", byteOffset := 8 }, { name := "signed", type := 4, offset := 2, embedded := false, tag := "", pkgPath := "runtime", byteOffset := 16 }, { name := "code", type := 6, offset := 3, embedded := false, tag := "", pkgPath := "runtime", byteOffset := 17 }] = true := by kernel_rfl
theorem ti8 : Try.prog.info? 8 = some Try.t8 := by kernel_rfl
theorem tz8 : ((Try.prog.info? 8).bind (·.zero)).map (·.cells) = some (List.toArray [(.int .i64 0), (.int .i64 0), (.bool false), (.int .u8 0)]) := by kernel_rfl
theorem tx8 : TyI Try.prog 8 4 24 (.agg #[(.int .i64 0), (.int .i64 0), (.bool false), (.int .u8 0)]) := ⟨Try.t8, ti8, rfl, rfl, rfl⟩
theorem to8 : okFs Try.prog #[{ name := "x", type := 2, offset := 0, embedded := false, tag := "", pkgPath := "runtime", byteOffset := 0 }, { name := "y", type := 3, offset := 1, embedded := false, tag := "", pkgPath := "runtime", byteOffset := 8 }, { name := "signed", type := 4, offset := 2, embedded := false, tag := "", pkgPath := "runtime", byteOffset := 16 }, { name := "code", type := 6, offset := 3, embedded := false, tag := "", pkgPath := "runtime", byteOffset := 17 }] = true := by kernel_rfl
theorem ti9 : Try.prog.info? 9 = some Try.t9 := by kernel_rfl
theorem tz9 : ((Try.prog.info? 9).bind (·.zero)).map (·.cells) = some (List.toArray [(.string ByteArray.empty)]) := by kernel_rfl
theorem tx9 : TyI Try.prog 9 1 16 (.string ByteArray.empty) := ⟨Try.t9, ti9, rfl, rfl, rfl⟩
theorem ti10 : Try.prog.info? 10 = some Try.t10 := by kernel_rfl
theorem tz10 : ((Try.prog.info? 10).bind (·.zero)).map (·.cells) = some (List.toArray [(.string ByteArray.empty)]) := by kernel_rfl
theorem tx10 : TyI Try.prog 10 1 16 (.string ByteArray.empty) := ⟨Try.t10, ti10, rfl, rfl, rfl⟩
theorem ti11 : Try.prog.info? 11 = some Try.t11 := by kernel_rfl
theorem tz11 : ((Try.prog.info? 11).bind (·.zero)).map (·.cells) = some (List.toArray [(.string ByteArray.empty)]) := by kernel_rfl
theorem tx11 : TyI Try.prog 11 1 16 (.string ByteArray.empty) := ⟨Try.t11, ti11, rfl, rfl, rfl⟩
theorem ti12 : Try.prog.info? 12 = some Try.t12 := by kernel_rfl
theorem tz12 : ((Try.prog.info? 12).bind (·.zero)).map (·.cells) = some (List.toArray [(.int .u64 0)]) := by kernel_rfl
theorem tx12 : TyI Try.prog 12 1 8 (.int .u64 0) := ⟨Try.t12, ti12, rfl, rfl, rfl⟩
theorem ti13 : Try.prog.info? 13 = some Try.t13 := by kernel_rfl
theorem tz13 : ((Try.prog.info? 13).bind (·.zero)).map (·.cells) = some (List.toArray [(.string ByteArray.empty), (.int .u64 0)]) := by kernel_rfl
theorem tx13 : TyI Try.prog 13 2 24 (.agg #[(.string ByteArray.empty), (.int .u64 0)]) := ⟨Try.t13, ti13, rfl, rfl, rfl⟩
theorem to13 : okFs Try.prog #[{ name := "msg", type := 9, offset := 0, embedded := false, tag := "", pkgPath := "runtime", byteOffset := 0 }, { name := "addr", type := 12, offset := 1, embedded := false, tag := "", pkgPath := "runtime", byteOffset := 16 }] = true := by kernel_rfl
theorem ti14 : Try.prog.info? 14 = some Try.t14 := by kernel_rfl
theorem tz14 : ((Try.prog.info? 14).bind (·.zero)).map (·.cells) = some (List.toArray [(.string ByteArray.empty), (.int .u64 0)]) := by kernel_rfl
theorem tx14 : TyI Try.prog 14 2 24 (.agg #[(.string ByteArray.empty), (.int .u64 0)]) := ⟨Try.t14, ti14, rfl, rfl, rfl⟩
theorem to14 : okFs Try.prog #[{ name := "msg", type := 9, offset := 0, embedded := false, tag := "", pkgPath := "runtime", byteOffset := 0 }, { name := "addr", type := 12, offset := 1, embedded := false, tag := "", pkgPath := "runtime", byteOffset := 16 }] = true := by kernel_rfl
theorem ti15 : Try.prog.info? 15 = some Try.t15 := by kernel_rfl
theorem tz15 : ((Try.prog.info? 15).bind (·.zero)).map (·.cells) = some (List.toArray [(.pointer none)]) := by kernel_rfl
theorem tx15 : TyI Try.prog 15 1 8 (.pointer none) := ⟨Try.t15, ti15, rfl, rfl, rfl⟩
theorem ti16 : Try.prog.info? 16 = some Try.t16 := by kernel_rfl
theorem tz16 : ((Try.prog.info? 16).bind (·.zero)).map (·.cells) = some (List.toArray [(.pointer none)]) := by kernel_rfl
theorem tx16 : TyI Try.prog 16 1 8 (.pointer none) := ⟨Try.t16, ti16, rfl, rfl, rfl⟩
theorem ti17 : Try.prog.info? 17 = some Try.t17 := by kernel_rfl
theorem tz17 : ((Try.prog.info? 17).bind (·.zero)).map (·.cells) = some (List.toArray [(.pointer none)]) := by kernel_rfl
theorem tx17 : TyI Try.prog 17 1 8 (.pointer none) := ⟨Try.t17, ti17, rfl, rfl, rfl⟩
theorem ti18 : Try.prog.info? 18 = some Try.t18 := by kernel_rfl
theorem tz18 : ((Try.prog.info? 18).bind (·.zero)).map (·.cells) = some (List.toArray [(.pointer none)]) := by kernel_rfl
theorem tx18 : TyI Try.prog 18 1 8 (.agg #[(.pointer none)]) := ⟨Try.t18, ti18, rfl, rfl, rfl⟩
theorem to18 : okFs Try.prog #[{ name := "typ", type := 17, offset := 0, embedded := false, tag := "", pkgPath := "internal/runtime/maps", byteOffset := 0 }] = true := by kernel_rfl
theorem ti19 : Try.prog.info? 19 = some Try.t19 := by kernel_rfl
theorem tz19 : ((Try.prog.info? 19).bind (·.zero)).map (·.cells) = some (List.toArray [(.pointer none)]) := by kernel_rfl
theorem tx19 : TyI Try.prog 19 1 8 (.agg #[(.pointer none)]) := ⟨Try.t19, ti19, rfl, rfl, rfl⟩
theorem to19 : okFs Try.prog #[{ name := "typ", type := 17, offset := 0, embedded := false, tag := "", pkgPath := "internal/runtime/maps", byteOffset := 0 }] = true := by kernel_rfl
theorem ti20 : Try.prog.info? 20 = some Try.t20 := by kernel_rfl
theorem tz20 : ((Try.prog.info? 20).bind (·.zero)).map (·.cells) = some (List.toArray [.nilIface]) := by kernel_rfl
theorem tx20 : TyI Try.prog 20 1 16 .nilIface := ⟨Try.t20, ti20, rfl, rfl, rfl⟩
theorem ti21 : Try.prog.info? 21 = some Try.t21 := by kernel_rfl
theorem tz21 : ((Try.prog.info? 21).bind (·.zero)).map (·.cells) = some (List.toArray [(.int .i32 0)]) := by kernel_rfl
theorem tx21 : TyI Try.prog 21 1 4 (.int .i32 0) := ⟨Try.t21, ti21, rfl, rfl, rfl⟩
theorem ti22 : Try.prog.info? 22 = some Try.t22 := by kernel_rfl
theorem tz22 : ((Try.prog.info? 22).bind (·.zero)).map (·.cells) = some (List.toArray [(.slice none 0 0)]) := by kernel_rfl
theorem tx22 : TyI Try.prog 22 1 24 (.slice none 0 0) := ⟨Try.t22, ti22, rfl, rfl, rfl⟩
theorem ti23 : Try.prog.info? 23 = some Try.t23 := by kernel_rfl
theorem tz23 : ((Try.prog.info? 23).bind (·.zero)).map (·.cells) = some (List.toArray [.nilFunc]) := by kernel_rfl
theorem tx23 : TyI Try.prog 23 1 8 .nilFunc := ⟨Try.t23, ti23, rfl, rfl, rfl⟩
theorem ti24 : Try.prog.info? 24 = some Try.t24 := by kernel_rfl
theorem tz24 : ((Try.prog.info? 24).bind (·.zero)).map (·.cells) = some (List.toArray [(.pointer none)]) := by kernel_rfl
theorem tx24 : TyI Try.prog 24 1 8 (.pointer none) := ⟨Try.t24, ti24, rfl, rfl, rfl⟩
theorem ti25 : Try.prog.info? 25 = some Try.t25 := by kernel_rfl
theorem tz25 : ((Try.prog.info? 25).bind (·.zero)).map (·.cells) = some (List.toArray [.nilFunc]) := by kernel_rfl
theorem tx25 : TyI Try.prog 25 1 8 .nilFunc := ⟨Try.t25, ti25, rfl, rfl, rfl⟩
theorem ti26 : Try.prog.info? 26 = some Try.t26 := by kernel_rfl
theorem tz26 : ((Try.prog.info? 26).bind (·.zero)).map (·.cells) = some (List.toArray [(.int .i64 0), (.int .i64 0)]) := by kernel_rfl
theorem tx26 : TyI Try.prog 26 2 16 (.agg #[(.int .i64 0), (.int .i64 0)]) := ⟨Try.t26, ti26, rfl, rfl, rfl⟩
theorem to26 : okFs Try.prog #[{ name := "Start", type := 3, offset := 0, embedded := false, tag := "", pkgPath := "", byteOffset := 0 }, { name := "Len", type := 3, offset := 1, embedded := false, tag := "", pkgPath := "", byteOffset := 8 }] = true := by kernel_rfl
theorem ti27 : Try.prog.info? 27 = some Try.t27 := by kernel_rfl
theorem tz27 : ((Try.prog.info? 27).bind (·.zero)).map (·.cells) = some (List.toArray [(.int .i64 0), (.int .i64 0)]) := by kernel_rfl
theorem tx27 : TyI Try.prog 27 2 16 (.agg #[(.int .i64 0), (.int .i64 0)]) := ⟨Try.t27, ti27, rfl, rfl, rfl⟩
theorem to27 : okFs Try.prog #[{ name := "Start", type := 3, offset := 0, embedded := false, tag := "", pkgPath := "", byteOffset := 0 }, { name := "Len", type := 3, offset := 1, embedded := false, tag := "", pkgPath := "", byteOffset := 8 }] = true := by kernel_rfl
theorem ti28 : Try.prog.info? 28 = some Try.t28 := by kernel_rfl
theorem tz28 : ((Try.prog.info? 28).bind (·.zero)).map (·.cells) = some (List.toArray [(.int .i64 0), (.int .i64 0), (.int .i64 0), (.int .i64 0)]) := by kernel_rfl
theorem tx28 : TyI Try.prog 28 4 32 (.agg #[(.int .i64 0), (.int .i64 0), (.int .i64 0), (.int .i64 0)]) := ⟨Try.t28, ti28, rfl, rfl, rfl⟩
theorem to28 : okFs Try.prog #[{ name := "Kind", type := 3, offset := 0, embedded := false, tag := "", pkgPath := "", byteOffset := 0 }, { name := "N", type := 3, offset := 1, embedded := false, tag := "", pkgPath := "", byteOffset := 8 }, { name := "At", type := 27, offset := 2, embedded := false, tag := "", pkgPath := "", byteOffset := 16 }] = true := by kernel_rfl
theorem ti29 : Try.prog.info? 29 = some Try.t29 := by kernel_rfl
theorem tz29 : ((Try.prog.info? 29).bind (·.zero)).map (·.cells) = some (List.toArray [(.int .i64 0), (.int .i64 0), (.int .i64 0), (.int .i64 0)]) := by kernel_rfl
theorem tx29 : TyI Try.prog 29 4 32 (.agg #[(.int .i64 0), (.int .i64 0), (.int .i64 0), (.int .i64 0)]) := ⟨Try.t29, ti29, rfl, rfl, rfl⟩
theorem to29 : okFs Try.prog #[{ name := "Kind", type := 3, offset := 0, embedded := false, tag := "", pkgPath := "", byteOffset := 0 }, { name := "N", type := 3, offset := 1, embedded := false, tag := "", pkgPath := "", byteOffset := 8 }, { name := "At", type := 27, offset := 2, embedded := false, tag := "", pkgPath := "", byteOffset := 16 }] = true := by kernel_rfl
theorem ti30 : Try.prog.info? 30 = some Try.t30 := by kernel_rfl
theorem tz30 : ((Try.prog.info? 30).bind (·.zero)).map (·.cells) = some (List.toArray [(.int .i64 0)]) := by kernel_rfl
theorem tx30 : TyI Try.prog 30 1 8 (.int .i64 0) := ⟨Try.t30, ti30, rfl, rfl, rfl⟩
theorem ti31 : Try.prog.info? 31 = some Try.t31 := by kernel_rfl
theorem ti32 : Try.prog.info? 32 = some Try.t32 := by kernel_rfl
theorem tz32 : ((Try.prog.info? 32).bind (·.zero)).map (·.cells) = some (List.toArray [.nilFunc]) := by kernel_rfl
theorem tx32 : TyI Try.prog 32 1 8 .nilFunc := ⟨Try.t32, ti32, rfl, rfl, rfl⟩
theorem ti33 : Try.prog.info? 33 = some Try.t33 := by kernel_rfl
theorem tz33 : ((Try.prog.info? 33).bind (·.zero)).map (·.cells) = some (List.toArray [.nilFunc]) := by kernel_rfl
theorem tx33 : TyI Try.prog 33 1 8 .nilFunc := ⟨Try.t33, ti33, rfl, rfl, rfl⟩
theorem ti34 : Try.prog.info? 34 = some Try.t34 := by kernel_rfl
theorem tz34 : ((Try.prog.info? 34).bind (·.zero)).map (·.cells) = some (List.toArray [.nilFunc]) := by kernel_rfl
theorem tx34 : TyI Try.prog 34 1 8 .nilFunc := ⟨Try.t34, ti34, rfl, rfl, rfl⟩
theorem ti35 : Try.prog.info? 35 = some Try.t35 := by kernel_rfl
theorem tz35 : ((Try.prog.info? 35).bind (·.zero)).map (·.cells) = some (List.toArray [(.slice none 0 0)]) := by kernel_rfl
theorem tx35 : TyI Try.prog 35 1 24 (.slice none 0 0) := ⟨Try.t35, ti35, rfl, rfl, rfl⟩
theorem ti36 : Try.prog.info? 36 = some Try.t36 := by kernel_rfl
theorem ti37 : Try.prog.info? 37 = some Try.t37 := by kernel_rfl
theorem tz37 : ((Try.prog.info? 37).bind (·.zero)).map (·.cells) = some (List.toArray [.nilFunc]) := by kernel_rfl
theorem tx37 : TyI Try.prog 37 1 8 .nilFunc := ⟨Try.t37, ti37, rfl, rfl, rfl⟩
theorem ti38 : Try.prog.info? 38 = some Try.t38 := by kernel_rfl
theorem tz38 : ((Try.prog.info? 38).bind (·.zero)).map (·.cells) = some (List.toArray [.nilFunc]) := by kernel_rfl
theorem tx38 : TyI Try.prog 38 1 8 .nilFunc := ⟨Try.t38, ti38, rfl, rfl, rfl⟩
theorem ti39 : Try.prog.info? 39 = some Try.t39 := by kernel_rfl
theorem ti40 : Try.prog.info? 40 = some Try.t40 := by kernel_rfl
theorem tz40 : ((Try.prog.info? 40).bind (·.zero)).map (·.cells) = some (List.toArray [.nilFunc]) := by kernel_rfl
theorem tx40 : TyI Try.prog 40 1 8 .nilFunc := ⟨Try.t40, ti40, rfl, rfl, rfl⟩
theorem ti41 : Try.prog.info? 41 = some Try.t41 := by kernel_rfl
theorem tz41 : ((Try.prog.info? 41).bind (·.zero)).map (·.cells) = some (List.toArray [.nilFunc]) := by kernel_rfl
theorem tx41 : TyI Try.prog 41 1 8 .nilFunc := ⟨Try.t41, ti41, rfl, rfl, rfl⟩
theorem ti42 : Try.prog.info? 42 = some Try.t42 := by kernel_rfl
theorem tz42 : ((Try.prog.info? 42).bind (·.zero)).map (·.cells) = some (List.toArray [(.int .i64 0), (.slice none 0 0), (.slice none 0 0)]) := by kernel_rfl
theorem tx42 : TyI Try.prog 42 3 56 (.agg #[(.int .i64 0), (.slice none 0 0), (.slice none 0 0)]) := ⟨Try.t42, ti42, rfl, rfl, rfl⟩
theorem to42 : okFs Try.prog #[{ name := "total", type := 3, offset := 0, embedded := false, tag := "", pkgPath := "bailey/extent", byteOffset := 0 }, { name := "free", type := 35, offset := 1, embedded := false, tag := "", pkgPath := "bailey/extent", byteOffset := 8 }, { name := "later", type := 35, offset := 2, embedded := false, tag := "", pkgPath := "bailey/extent", byteOffset := 32 }] = true := by kernel_rfl
theorem ti43 : Try.prog.info? 43 = some Try.t43 := by kernel_rfl
theorem tz43 : ((Try.prog.info? 43).bind (·.zero)).map (·.cells) = some (List.toArray [(.int .i64 0), (.slice none 0 0), (.slice none 0 0)]) := by kernel_rfl
theorem tx43 : TyI Try.prog 43 3 56 (.agg #[(.int .i64 0), (.slice none 0 0), (.slice none 0 0)]) := ⟨Try.t43, ti43, rfl, rfl, rfl⟩
theorem to43 : okFs Try.prog #[{ name := "total", type := 3, offset := 0, embedded := false, tag := "", pkgPath := "bailey/extent", byteOffset := 0 }, { name := "free", type := 35, offset := 1, embedded := false, tag := "", pkgPath := "bailey/extent", byteOffset := 8 }, { name := "later", type := 35, offset := 2, embedded := false, tag := "", pkgPath := "bailey/extent", byteOffset := 32 }] = true := by kernel_rfl
theorem ti44 : Try.prog.info? 44 = some Try.t44 := by kernel_rfl
theorem tz44 : ((Try.prog.info? 44).bind (·.zero)).map (·.cells) = some (List.toArray [.nilFunc]) := by kernel_rfl
theorem tx44 : TyI Try.prog 44 1 8 .nilFunc := ⟨Try.t44, ti44, rfl, rfl, rfl⟩
theorem ti45 : Try.prog.info? 45 = some Try.t45 := by kernel_rfl
theorem tz45 : ((Try.prog.info? 45).bind (·.zero)).map (·.cells) = some (List.toArray [.nilFunc]) := by kernel_rfl
theorem tx45 : TyI Try.prog 45 1 8 .nilFunc := ⟨Try.t45, ti45, rfl, rfl, rfl⟩
theorem ti46 : Try.prog.info? 46 = some Try.t46 := by kernel_rfl
theorem tz46 : ((Try.prog.info? 46).bind (·.zero)).map (·.cells) = some (List.toArray [.nilFunc]) := by kernel_rfl
theorem tx46 : TyI Try.prog 46 1 8 .nilFunc := ⟨Try.t46, ti46, rfl, rfl, rfl⟩
theorem ti47 : Try.prog.info? 47 = some Try.t47 := by kernel_rfl
theorem tz47 : ((Try.prog.info? 47).bind (·.zero)).map (·.cells) = some (List.toArray [.nilFunc]) := by kernel_rfl
theorem tx47 : TyI Try.prog 47 1 8 .nilFunc := ⟨Try.t47, ti47, rfl, rfl, rfl⟩
theorem ti48 : Try.prog.info? 48 = some Try.t48 := by kernel_rfl
theorem tz48 : ((Try.prog.info? 48).bind (·.zero)).map (·.cells) = some (List.toArray [.nilFunc]) := by kernel_rfl
theorem tx48 : TyI Try.prog 48 1 8 .nilFunc := ⟨Try.t48, ti48, rfl, rfl, rfl⟩
theorem ti49 : Try.prog.info? 49 = some Try.t49 := by kernel_rfl
theorem tz49 : ((Try.prog.info? 49).bind (·.zero)).map (·.cells) = some (List.toArray [.nilFunc]) := by kernel_rfl
theorem tx49 : TyI Try.prog 49 1 8 .nilFunc := ⟨Try.t49, ti49, rfl, rfl, rfl⟩
theorem ti50 : Try.prog.info? 50 = some Try.t50 := by kernel_rfl
theorem tz50 : ((Try.prog.info? 50).bind (·.zero)).map (·.cells) = some (List.toArray [.nilFunc]) := by kernel_rfl
theorem tx50 : TyI Try.prog 50 1 8 .nilFunc := ⟨Try.t50, ti50, rfl, rfl, rfl⟩
theorem ti51 : Try.prog.info? 51 = some Try.t51 := by kernel_rfl
theorem tz51 : ((Try.prog.info? 51).bind (·.zero)).map (·.cells) = some (List.toArray [.nilFunc]) := by kernel_rfl
theorem tx51 : TyI Try.prog 51 1 8 .nilFunc := ⟨Try.t51, ti51, rfl, rfl, rfl⟩
theorem ti52 : Try.prog.info? 52 = some Try.t52 := by kernel_rfl
theorem tz52 : ((Try.prog.info? 52).bind (·.zero)).map (·.cells) = some (List.toArray [.nilFunc]) := by kernel_rfl
theorem tx52 : TyI Try.prog 52 1 8 .nilFunc := ⟨Try.t52, ti52, rfl, rfl, rfl⟩
theorem ti53 : Try.prog.info? 53 = some Try.t53 := by kernel_rfl
theorem tz53 : ((Try.prog.info? 53).bind (·.zero)).map (·.cells) = some (List.toArray [.nilFunc]) := by kernel_rfl
theorem tx53 : TyI Try.prog 53 1 8 .nilFunc := ⟨Try.t53, ti53, rfl, rfl, rfl⟩
theorem ti54 : Try.prog.info? 54 = some Try.t54 := by kernel_rfl
theorem tz54 : ((Try.prog.info? 54).bind (·.zero)).map (·.cells) = some (List.toArray [.nilFunc]) := by kernel_rfl
theorem tx54 : TyI Try.prog 54 1 8 .nilFunc := ⟨Try.t54, ti54, rfl, rfl, rfl⟩
theorem ti55 : Try.prog.info? 55 = some Try.t55 := by kernel_rfl
theorem tz55 : ((Try.prog.info? 55).bind (·.zero)).map (·.cells) = some (List.toArray [.nilFunc]) := by kernel_rfl
theorem tx55 : TyI Try.prog 55 1 8 .nilFunc := ⟨Try.t55, ti55, rfl, rfl, rfl⟩
theorem ti56 : Try.prog.info? 56 = some Try.t56 := by kernel_rfl
theorem tz56 : ((Try.prog.info? 56).bind (·.zero)).map (·.cells) = some (List.toArray [.nilFunc]) := by kernel_rfl
theorem tx56 : TyI Try.prog 56 1 8 .nilFunc := ⟨Try.t56, ti56, rfl, rfl, rfl⟩
theorem ti57 : Try.prog.info? 57 = some Try.t57 := by kernel_rfl
theorem tz57 : ((Try.prog.info? 57).bind (·.zero)).map (·.cells) = some (List.toArray [(.pointer none), (.pointer none), (.pointer none), (.string ByteArray.empty)]) := by kernel_rfl
theorem tx57 : TyI Try.prog 57 4 40 (.agg #[(.pointer none), (.pointer none), (.pointer none), (.string ByteArray.empty)]) := ⟨Try.t57, ti57, rfl, rfl, rfl⟩
theorem to57 : okFs Try.prog #[{ name := "_interface", type := 17, offset := 0, embedded := false, tag := "", pkgPath := "runtime", byteOffset := 0 }, { name := "concrete", type := 17, offset := 1, embedded := false, tag := "", pkgPath := "runtime", byteOffset := 8 }, { name := "asserted", type := 17, offset := 2, embedded := false, tag := "", pkgPath := "runtime", byteOffset := 16 }, { name := "missingMethod", type := 9, offset := 3, embedded := false, tag := "", pkgPath := "runtime", byteOffset := 24 }] = true := by kernel_rfl
theorem ti58 : Try.prog.info? 58 = some Try.t58 := by kernel_rfl
theorem tz58 : ((Try.prog.info? 58).bind (·.zero)).map (·.cells) = some (List.toArray [(.pointer none), (.pointer none), (.pointer none), (.string ByteArray.empty)]) := by kernel_rfl
theorem tx58 : TyI Try.prog 58 4 40 (.agg #[(.pointer none), (.pointer none), (.pointer none), (.string ByteArray.empty)]) := ⟨Try.t58, ti58, rfl, rfl, rfl⟩
theorem to58 : okFs Try.prog #[{ name := "_interface", type := 17, offset := 0, embedded := false, tag := "", pkgPath := "runtime", byteOffset := 0 }, { name := "concrete", type := 17, offset := 1, embedded := false, tag := "", pkgPath := "runtime", byteOffset := 8 }, { name := "asserted", type := 17, offset := 2, embedded := false, tag := "", pkgPath := "runtime", byteOffset := 16 }, { name := "missingMethod", type := 9, offset := 3, embedded := false, tag := "", pkgPath := "runtime", byteOffset := 24 }] = true := by kernel_rfl
theorem ti59 : Try.prog.info? 59 = some Try.t59 := by kernel_rfl
theorem tz59 : ((Try.prog.info? 59).bind (·.zero)).map (·.cells) = some (List.toArray []) := by kernel_rfl
theorem tx59 : TyI Try.prog 59 0 0 (.agg #[]) := ⟨Try.t59, ti59, rfl, rfl, rfl⟩
theorem ti60 : Try.prog.info? 60 = some Try.t60 := by kernel_rfl
theorem tz60 : ((Try.prog.info? 60).bind (·.zero)).map (·.cells) = some (List.toArray []) := by kernel_rfl
theorem tx60 : TyI Try.prog 60 0 0 (.agg #[]) := ⟨Try.t60, ti60, rfl, rfl, rfl⟩
theorem to60 : okFs Try.prog #[{ name := "_", type := 59, offset := 0, embedded := false, tag := "", pkgPath := "runtime", byteOffset := 0 }] = true := by kernel_rfl
theorem ti61 : Try.prog.info? 61 = some Try.t61 := by kernel_rfl
theorem tz61 : ((Try.prog.info? 61).bind (·.zero)).map (·.cells) = some (List.toArray []) := by kernel_rfl
theorem tx61 : TyI Try.prog 61 0 0 (.agg #[]) := ⟨Try.t61, ti61, rfl, rfl, rfl⟩
theorem to61 : okFs Try.prog #[{ name := "_", type := 59, offset := 0, embedded := false, tag := "", pkgPath := "runtime", byteOffset := 0 }] = true := by kernel_rfl
theorem ti62 : Try.prog.info? 62 = some Try.t62 := by kernel_rfl
theorem tz62 : ((Try.prog.info? 62).bind (·.zero)).map (·.cells) = some (List.toArray [(.int .u32 0)]) := by kernel_rfl
theorem tx62 : TyI Try.prog 62 1 4 (.int .u32 0) := ⟨Try.t62, ti62, rfl, rfl, rfl⟩
theorem ti63 : Try.prog.info? 63 = some Try.t63 := by kernel_rfl
theorem tz63 : ((Try.prog.info? 63).bind (·.zero)).map (·.cells) = some (List.toArray [(.int .u8 0)]) := by kernel_rfl
theorem tx63 : TyI Try.prog 63 1 1 (.int .u8 0) := ⟨Try.t63, ti63, rfl, rfl, rfl⟩
theorem ti64 : Try.prog.info? 64 = some Try.t64 := by kernel_rfl
theorem tz64 : ((Try.prog.info? 64).bind (·.zero)).map (·.cells) = some (List.toArray [(.int .u8 0)]) := by kernel_rfl
theorem tx64 : TyI Try.prog 64 1 1 (.int .u8 0) := ⟨Try.t64, ti64, rfl, rfl, rfl⟩
theorem ti65 : Try.prog.info? 65 = some Try.t65 := by kernel_rfl
theorem tz65 : ((Try.prog.info? 65).bind (·.zero)).map (·.cells) = some (List.toArray [.nilFunc]) := by kernel_rfl
theorem tx65 : TyI Try.prog 65 1 8 .nilFunc := ⟨Try.t65, ti65, rfl, rfl, rfl⟩
theorem ti66 : Try.prog.info? 66 = some Try.t66 := by kernel_rfl
theorem tz66 : ((Try.prog.info? 66).bind (·.zero)).map (·.cells) = some (List.toArray [(.pointer none)]) := by kernel_rfl
theorem tx66 : TyI Try.prog 66 1 8 (.pointer none) := ⟨Try.t66, ti66, rfl, rfl, rfl⟩
theorem ti67 : Try.prog.info? 67 = some Try.t67 := by kernel_rfl
theorem tz67 : ((Try.prog.info? 67).bind (·.zero)).map (·.cells) = some (List.toArray [(.int .i32 0)]) := by kernel_rfl
theorem tx67 : TyI Try.prog 67 1 4 (.int .i32 0) := ⟨Try.t67, ti67, rfl, rfl, rfl⟩
theorem ti68 : Try.prog.info? 68 = some Try.t68 := by kernel_rfl
theorem tz68 : ((Try.prog.info? 68).bind (·.zero)).map (·.cells) = some (List.toArray [(.int .i32 0)]) := by kernel_rfl
theorem tx68 : TyI Try.prog 68 1 4 (.int .i32 0) := ⟨Try.t68, ti68, rfl, rfl, rfl⟩
theorem ti69 : Try.prog.info? 69 = some Try.t69 := by kernel_rfl
theorem tz69 : ((Try.prog.info? 69).bind (·.zero)).map (·.cells) = some (List.toArray [(.int .u64 0), (.int .u64 0), (.int .u32 0), (.int .u8 0), (.int .u8 0), (.int .u8 0), (.int .u8 0), .nilFunc, (.pointer none), (.int .i32 0), (.int .i32 0)]) := by kernel_rfl
theorem tx69 : TyI Try.prog 69 11 48 (.agg #[(.int .u64 0), (.int .u64 0), (.int .u32 0), (.int .u8 0), (.int .u8 0), (.int .u8 0), (.int .u8 0), .nilFunc, (.pointer none), (.int .i32 0), (.int .i32 0)]) := ⟨Try.t69, ti69, rfl, rfl, rfl⟩
theorem to69 : okFs Try.prog #[{ name := "Size_", type := 12, offset := 0, embedded := false, tag := "", pkgPath := "", byteOffset := 0 }, { name := "PtrBytes", type := 12, offset := 1, embedded := false, tag := "", pkgPath := "", byteOffset := 8 }, { name := "Hash", type := 62, offset := 2, embedded := false, tag := "", pkgPath := "", byteOffset := 16 }, { name := "TFlag", type := 63, offset := 3, embedded := false, tag := "", pkgPath := "", byteOffset := 20 }, { name := "Align_", type := 5, offset := 4, embedded := false, tag := "", pkgPath := "", byteOffset := 21 }, { name := "FieldAlign_", type := 5, offset := 5, embedded := false, tag := "", pkgPath := "", byteOffset := 22 }, { name := "Kind_", type := 64, offset := 6, embedded := false, tag := "", pkgPath := "", byteOffset := 23 }, { name := "Equal", type := 65, offset := 7, embedded := false, tag := "", pkgPath := "", byteOffset := 24 }, { name := "GCData", type := 66, offset := 8, embedded := false, tag := "", pkgPath := "", byteOffset := 32 }, { name := "Str", type := 67, offset := 9, embedded := false, tag := "", pkgPath := "", byteOffset := 40 }, { name := "PtrToThis", type := 68, offset := 10, embedded := false, tag := "", pkgPath := "", byteOffset := 44 }] = true := by kernel_rfl
theorem ti70 : Try.prog.info? 70 = some Try.t70 := by kernel_rfl
theorem tz70 : ((Try.prog.info? 70).bind (·.zero)).map (·.cells) = some (List.toArray [(.int .u64 0), (.int .u64 0), (.int .u32 0), (.int .u8 0), (.int .u8 0), (.int .u8 0), (.int .u8 0), .nilFunc, (.pointer none), (.int .i32 0), (.int .i32 0)]) := by kernel_rfl
theorem tx70 : TyI Try.prog 70 11 48 (.agg #[(.int .u64 0), (.int .u64 0), (.int .u32 0), (.int .u8 0), (.int .u8 0), (.int .u8 0), (.int .u8 0), .nilFunc, (.pointer none), (.int .i32 0), (.int .i32 0)]) := ⟨Try.t70, ti70, rfl, rfl, rfl⟩
theorem to70 : okFs Try.prog #[{ name := "Size_", type := 12, offset := 0, embedded := false, tag := "", pkgPath := "", byteOffset := 0 }, { name := "PtrBytes", type := 12, offset := 1, embedded := false, tag := "", pkgPath := "", byteOffset := 8 }, { name := "Hash", type := 62, offset := 2, embedded := false, tag := "", pkgPath := "", byteOffset := 16 }, { name := "TFlag", type := 63, offset := 3, embedded := false, tag := "", pkgPath := "", byteOffset := 20 }, { name := "Align_", type := 5, offset := 4, embedded := false, tag := "", pkgPath := "", byteOffset := 21 }, { name := "FieldAlign_", type := 5, offset := 5, embedded := false, tag := "", pkgPath := "", byteOffset := 22 }, { name := "Kind_", type := 64, offset := 6, embedded := false, tag := "", pkgPath := "", byteOffset := 23 }, { name := "Equal", type := 65, offset := 7, embedded := false, tag := "", pkgPath := "", byteOffset := 24 }, { name := "GCData", type := 66, offset := 8, embedded := false, tag := "", pkgPath := "", byteOffset := 32 }, { name := "Str", type := 67, offset := 9, embedded := false, tag := "", pkgPath := "", byteOffset := 40 }, { name := "PtrToThis", type := 68, offset := 10, embedded := false, tag := "", pkgPath := "", byteOffset := 44 }] = true := by kernel_rfl
theorem ti71 : Try.prog.info? 71 = some Try.t71 := by kernel_rfl
theorem tz71 : ((Try.prog.info? 71).bind (·.zero)).map (·.cells) = some (List.toArray [(.pointer none)]) := by kernel_rfl
theorem tx71 : TyI Try.prog 71 1 8 (.pointer none) := ⟨Try.t71, ti71, rfl, rfl, rfl⟩
theorem Try.mixed : Try.prog.follows .mixedOrders = true := by kernel_rfl
end Go.Proofs.YtgnjocnbohbfaaaR
