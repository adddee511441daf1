/- The rows' ties, fact by fact. -/
import Derived.Test.YtacbahmmmndmbaaGreatDoorRows
import Derived.LaidByTextLater
import Derived.SevenTiedAt
namespace Go.Proofs.YtacbahmmmndmbaaGreatDoor
open Go
theorem bt_pin : Tryz.pinned.checked.prog.pinnedFits "unicode/utf8.first" = true := by kernel_rfl
theorem bt_noOwn : Tryz.pinned.checked.prog.headLifts.contains "ownunsafe" = false := by kernel_rfl
theorem bt_fits : Tryz.pinned.checked.prog.listedFits (("unicode/utf8.first", Rows.laid_unicode_utf8_first) :: [("unicode/utf8.acceptRanges", Rows.laid_unicode_utf8_acceptRanges), ("crier/head.may", Rows.laid_crier_head_may), ("crier/space.words", Rows.laid_crier_space_words), ("errors.errorType", Rows.laid_errors_errorType), ("internal/strconv.uint64pow10", Rows.laid_internal_strconv_uint64pow10), ("math/bits.deBruijn32tab", Rows.laid_math_bits_deBruijn32tab), ("math/bits.deBruijn64tab", Rows.laid_math_bits_deBruijn64tab)]) = true := by
  unfold Program.listedFits
  rw [bt_noOwn]
  kernel_rfl
theorem bt1 : Tryz.prog.worded (varsWordLater true) = true := by kernel_rfl
theorem bt2 : Tryz.prog.worded (varsWordLater !true) = false := by kernel_rfl
theorem bt3 : Tryz.prog.worded rootWordLater = true := by kernel_rfl
theorem bt4 : ([("unicode/utf8.acceptRanges", Rows.laid_unicode_utf8_acceptRanges), ("crier/head.may", Rows.laid_crier_head_may), ("crier/space.words", Rows.laid_crier_space_words), ("errors.errorType", Rows.laid_errors_errorType), ("internal/strconv.uint64pow10", Rows.laid_internal_strconv_uint64pow10), ("math/bits.deBruijn32tab", Rows.laid_math_bits_deBruijn32tab), ("math/bits.deBruijn64tab", Rows.laid_math_bits_deBruijn64tab)] : List (String × DataW Unit)).map (fun x => Tryz.prog.kindOfLater x.1) = [LaidKind.data, .data, .data, .handle, .data, .data, .data].map some := by kernel_rfl
theorem bt5 : (Tryz.prog.funcNamed "gosem.cut.vars").isSome = true := by kernel_rfl
theorem bt6 : varsNamedLaterB Tryz.prog (varsId Tryz.prog) [("unicode/utf8.acceptRanges", Rows.laid_unicode_utf8_acceptRanges), ("crier/head.may", Rows.laid_crier_head_may), ("crier/space.words", Rows.laid_crier_space_words), ("errors.errorType", Rows.laid_errors_errorType), ("internal/strconv.uint64pow10", Rows.laid_internal_strconv_uint64pow10), ("math/bits.deBruijn32tab", Rows.laid_math_bits_deBruijn32tab), ("math/bits.deBruijn64tab", Rows.laid_math_bits_deBruijn64tab)] = true := by kernel_rfl
theorem bt7 (os : Os) (tape : Tape) : varsDone Tryz.prog 400 (varsId Tryz.prog) os tape = true := by kernel_rfl
theorem bt8 (os : Os) (tape : Tape) : (DataW.laidRun Tryz.prog (varsWorld Tryz.prog 400 (varsId Tryz.prog) os tape).memory 8 ((([("unicode/utf8.acceptRanges", Rows.laid_unicode_utf8_acceptRanges), ("crier/head.may", Rows.laid_crier_head_may), ("crier/space.words", Rows.laid_crier_space_words), ("errors.errorType", Rows.laid_errors_errorType), ("internal/strconv.uint64pow10", Rows.laid_internal_strconv_uint64pow10), ("math/bits.deBruijn32tab", Rows.laid_math_bits_deBruijn32tab), ("math/bits.deBruijn64tab", Rows.laid_math_bits_deBruijn64tab)] : List (String × DataW Unit)).filter fun x => x.2.handleName?.isNone).map (·.1))).map (·.1) = some (([("unicode/utf8.acceptRanges", Rows.laid_unicode_utf8_acceptRanges), ("crier/head.may", Rows.laid_crier_head_may), ("crier/space.words", Rows.laid_crier_space_words), ("errors.errorType", Rows.laid_errors_errorType), ("internal/strconv.uint64pow10", Rows.laid_internal_strconv_uint64pow10), ("math/bits.deBruijn32tab", Rows.laid_math_bits_deBruijn32tab), ("math/bits.deBruijn64tab", Rows.laid_math_bits_deBruijn64tab)] : List (String × DataW Unit)).filter fun x => x.2.handleName?.isNone) := by kernel_rfl
theorem bt9 (os : Os) (tape : Tape) : (DataW.laidRun Tryz.prog (varsWorld Tryz.prog 400 (varsId Tryz.prog) os tape).memory 8 ((([("unicode/utf8.acceptRanges", Rows.laid_unicode_utf8_acceptRanges), ("crier/head.may", Rows.laid_crier_head_may), ("crier/space.words", Rows.laid_crier_space_words), ("errors.errorType", Rows.laid_errors_errorType), ("internal/strconv.uint64pow10", Rows.laid_internal_strconv_uint64pow10), ("math/bits.deBruijn32tab", Rows.laid_math_bits_deBruijn32tab), ("math/bits.deBruijn64tab", Rows.laid_math_bits_deBruijn64tab)] : List (String × DataW Unit)).filter fun x => x.2.handleName?.isNone).map (·.1))).map (fun x => decide x.2.Nodup && laidRowsB Tryz.prog (varsWorld Tryz.prog 400 (varsId Tryz.prog) os tape).memory x.2) = some true := by kernel_rfl
theorem bt10 (os : Os) (tape : Tape) : (([("unicode/utf8.acceptRanges", Rows.laid_unicode_utf8_acceptRanges), ("crier/head.may", Rows.laid_crier_head_may), ("crier/space.words", Rows.laid_crier_space_words), ("errors.errorType", Rows.laid_errors_errorType), ("internal/strconv.uint64pow10", Rows.laid_internal_strconv_uint64pow10), ("math/bits.deBruijn32tab", Rows.laid_math_bits_deBruijn32tab), ("math/bits.deBruijn64tab", Rows.laid_math_bits_deBruijn64tab)] : List (String × DataW Unit)).filter fun x => x.2.handleName?.isSome).all (handleAtB Tryz.prog (varsWorld Tryz.prog 400 (varsId Tryz.prog) os tape).memory) = true := by kernel_rfl
theorem bt_tie : Tryz.prog.laidByTextLater [("unicode/utf8.acceptRanges", Rows.laid_unicode_utf8_acceptRanges), ("crier/head.may", Rows.laid_crier_head_may), ("crier/space.words", Rows.laid_crier_space_words), ("errors.errorType", Rows.laid_errors_errorType), ("internal/strconv.uint64pow10", Rows.laid_internal_strconv_uint64pow10), ("math/bits.deBruijn32tab", Rows.laid_math_bits_deBruijn32tab), ("math/bits.deBruijn64tab", Rows.laid_math_bits_deBruijn64tab)] [.data, .data, .data, .handle, .data, .data, .data] true :=
  Program.laidByTextLater_by_run_h 400 8 bt1 bt2 bt3 bt4 bt5 bt6 bt7 bt8 bt9 bt10
theorem brokerZero_bt : Rows.brokerZeroRow.laidByTextAt .later Tryz.pinned [.pinned, .data, .data, .data, .handle, .data, .data, .data] true :=
  OpenClaim.laidByTextAt_pinned rfl rfl bt_tie rfl rfl rfl rfl (fun y hy _e => by
    simp only [Rows.brokerZeroRow, List.zip_cons_cons, List.zip_nil_right, List.mem_cons, List.mem_nil_iff, or_false] at hy
    rcases hy with rfl | rfl | rfl | rfl | rfl | rfl | rfl | rfl
    · exact ⟨bt_pin, by kernel_rfl⟩
    all_goals cases _e) bt_fits
theorem auditZero_bt : Rows.auditZeroRow.laidByTextAt .later Tryz.pinned [.pinned, .data, .data, .data, .handle, .data, .data, .data] true :=
  OpenClaim.laidByTextAt_pinned rfl rfl bt_tie rfl rfl rfl rfl (fun y hy _e => by
    simp only [Rows.auditZeroRow, List.zip_cons_cons, List.zip_nil_right, List.mem_cons, List.mem_nil_iff, or_false] at hy
    rcases hy with rfl | rfl | rfl | rfl | rfl | rfl | rfl | rfl
    · exact ⟨bt_pin, by kernel_rfl⟩
    all_goals cases _e) bt_fits
end Go.Proofs.YtacbahmmmndmbaaGreatDoor
