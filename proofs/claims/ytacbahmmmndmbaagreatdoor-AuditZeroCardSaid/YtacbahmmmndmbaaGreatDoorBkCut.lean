/- What AuditZero's cut reaches, taken apart: in one go it outgrows the kernel's memory. -/
import Derived.Test.YtacbahmmmndmbaaGreatDoorRows
import Derived.ProofKit
namespace Go.Proofs.YtacbahmmmndmbaaGreatDoor
open Go
def ipF (P : Program) (g : FuncId) : Option String := (P.funcs[g]?).bind fun fn => if fn.ours || fn.body.isNone || fn.name == "runtime.NumGoroutine" then some fn.name else none
def glF (P : Program) (g : FuncId) := ((P.funcs[g]?).bind (·.body)).elim [] Code.globalsNamed
def erF (P : Program) (g : FuncId) : Option String := (P.funcs[g]?).bind fun fn => if fn.body.isNone then entryReads.lookup fn.name else none
def cut0 : List FuncId := [4, 5, 25, 26, 57, 105, 170, 106, 171, 58, 107, 62, 108, 109, 110, 172, 119, 65, 122, 194, 279, 372, 195, 280, 281, 282, 373, 446, 511, 447, 448, 449, 512, 123, 173, 245, 69, 158, 338, 412, 487, 337, 411, 340, 415, 339, 413, 488, 414, 128, 205, 206, 489, 543, 549, 584, 544, 581, 545, 286]
def cut1 : List FuncId := [287, 546, 582, 583, 599, 547, 548, 550, 551, 246, 37, 76, 66, 341, 125, 416, 490, 361, 438, 500, 439, 440, 506, 564, 565, 417, 342, 263, 356, 39, 81, 131, 132, 133, 82, 134, 208, 290, 291, 292, 294, 300, 293, 295, 207, 135, 209, 136, 210, 215, 211, 296, 297, 298, 212, 299, 377, 137, 138, 139]
def cut2 : List FuncId := [213, 301, 302, 303, 140, 214, 304, 141, 142, 83, 143, 216, 284, 374, 450, 49, 84, 97, 157, 230, 103, 167, 168, 243, 169, 244, 126, 196, 283, 375, 451, 63, 98, 159, 160, 231, 149, 161, 232, 323, 324, 162, 233, 325, 389, 462, 518, 567, 592, 463, 464, 465, 519, 520, 568, 593, 602, 603, 569, 594]
def cut3 : List FuncId := [604, 326, 390, 327, 392, 391, 328, 393, 466, 234, 144, 235, 329, 394, 467, 521, 571, 570, 522, 468, 469, 523, 572, 573, 596, 595, 574, 578, 524, 426, 494, 495, 496, 497, 424, 556, 557, 471, 525, 541, 575, 576, 484, 526, 470, 472, 527, 217, 529, 528, 395, 473, 474, 530, 475, 531, 218, 145, 396, 476]
def cut4 : List FuncId := [532, 477, 533, 577, 597, 478, 534, 397, 479, 535, 536, 147, 74, 129, 480, 481, 537, 538, 579, 580, 598, 605, 539, 398, 482, 540, 483, 399, 400, 163, 236, 237, 241, 330, 331, 402, 403, 336, 401, 485, 332, 404, 405, 88, 333, 406, 407, 486, 542, 238, 164, 240, 239, 334, 408, 156, 335, 410, 409, 175]
def cut5 : List FuncId := [248, 255, 174, 247, 343, 418, 491, 420, 492, 552, 493, 553, 585, 554, 586, 555, 587, 419, 421, 111, 30, 112, 113, 176, 249, 177, 178, 35, 70, 71, 72, 127, 197, 198, 285, 199, 200, 288, 289, 376, 201, 202, 203, 204, 73, 250, 344, 422, 345, 423, 179, 251, 27, 59, 114, 28, 60, 115, 180, 61]
def cut6 : List FuncId := [116, 181, 252, 346, 154, 228, 348, 347, 425, 349, 155, 229, 316, 382, 453, 454, 456, 455, 513, 459, 457, 458, 514, 515, 317, 383, 318, 384, 385, 319, 386, 320, 387, 460, 461, 516, 517, 321, 388, 322, 254, 253, 117, 183, 182, 256, 118, 184, 257, 258, 350, 427, 498, 558, 559, 588, 589, 560, 561, 590]
def cut7 : List FuncId := [591, 600, 601, 259, 260, 351, 428, 429, 430, 499, 34, 67, 124, 68, 352, 353, 261, 354, 355, 431, 501, 436, 185, 262, 264, 357, 432, 433, 502, 562, 186, 265, 358, 434, 437, 504, 503, 563, 505, 435, 359, 360, 187, 266, 362, 188, 267, 363, 364, 130, 268, 365, 366, 441, 442, 507, 443, 64, 120, 193]
def cut8 : List FuncId := [271, 272, 369, 273, 274, 370, 371, 445, 275, 276, 277, 278, 121, 269, 367, 444, 508, 510, 509, 566, 165, 242, 368, 189, 190, 191, 270, 192, 18, 40, 16, 41, 85, 146, 86, 148, 219, 220, 305, 221, 222, 306, 307, 378, 223, 224, 225, 226, 87, 8, 29, 42, 13, 36, 75, 11, 33, 43, 89, 150]
def cut9 : List FuncId := [151, 227, 308, 309, 379, 310, 311, 380, 381, 452, 312, 313, 314, 315, 152, 7, 44, 90, 45, 91, 153, 92, 19, 46, 93, 47, 20, 48, 94, 95, 96, 9, 31, 50, 51, 99, 100, 101, 52, 54, 102, 166, 53, 21, 55, 56, 104, 22, 10, 32, 23, 24, 38, 77, 78, 79, 80]
set_option maxRecDepth 1000000
theorem cut_all : Tryz.prog.closure 4 = cut0 ++ (cut1 ++ (cut2 ++ (cut3 ++ (cut4 ++ (cut5 ++ (cut6 ++ (cut7 ++ (cut8 ++ (cut9))))))))) := by kernel_rfl
theorem cut_ip0 : List.filterMap (ipF Tryz.prog) cut0 = ["internal/bytealg.CountString", "internal/bytealg.IndexByteString", "internal/bytealg.IndexString"] := by kernel_rfl
theorem cut_gl0 : List.flatMap (glF Tryz.prog) cut0 = [2, 3, 4, 4, 4] := by kernel_rfl
theorem cut_er0 : List.filterMap (erF Tryz.prog) cut0 = ["internal/bytealg.MaxLen"] := by kernel_rfl
theorem cut_ip1 : List.filterMap (ipF Tryz.prog) cut1 = [] := by kernel_rfl
theorem cut_gl1 : List.flatMap (glF Tryz.prog) cut1 = [0] := by kernel_rfl
theorem cut_er1 : List.filterMap (erF Tryz.prog) cut1 = [] := by kernel_rfl
theorem cut_ip2 : List.filterMap (ipF Tryz.prog) cut2 = ["internal/abi.NoEscape", "internal/bytealg.MakeNoZero"] := by kernel_rfl
theorem cut_gl2 : List.flatMap (glF Tryz.prog) cut2 = [1, 1] := by kernel_rfl
theorem cut_er2 : List.filterMap (erF Tryz.prog) cut2 = [] := by kernel_rfl
theorem cut_ip3 : List.filterMap (ipF Tryz.prog) cut3 = ["internal/reflectlite.ValueOf", "(internal/reflectlite.Value).Type", "(internal/reflectlite.Value).IsNil", "internal/reflectlite.TypeOf", "(internal/reflectlite.Value).Elem", "(internal/reflectlite.Value).Set"] := by kernel_rfl
theorem cut_gl3 : List.flatMap (glF Tryz.prog) cut3 = [5] := by kernel_rfl
theorem cut_er3 : List.filterMap (erF Tryz.prog) cut3 = [] := by kernel_rfl
theorem cut_ip4 : List.filterMap (ipF Tryz.prog) cut4 = ["slices.overlaps[*crier/device.Device]", "slices.overlaps[crier/births.birth]"] := by kernel_rfl
theorem cut_gl4 : List.flatMap (glF Tryz.prog) cut4 = [] := by kernel_rfl
theorem cut_er4 : List.filterMap (erF Tryz.prog) cut4 = [] := by kernel_rfl
theorem cut_ip5 : List.filterMap (ipF Tryz.prog) cut5 = [] := by kernel_rfl
theorem cut_gl5 : List.flatMap (glF Tryz.prog) cut5 = [] := by kernel_rfl
theorem cut_er5 : List.filterMap (erF Tryz.prog) cut5 = [] := by kernel_rfl
theorem cut_ip6 : List.filterMap (ipF Tryz.prog) cut6 = [] := by kernel_rfl
theorem cut_gl6 : List.flatMap (glF Tryz.prog) cut6 = [6] := by kernel_rfl
theorem cut_er6 : List.filterMap (erF Tryz.prog) cut6 = [] := by kernel_rfl
theorem cut_ip7 : List.filterMap (ipF Tryz.prog) cut7 = [] := by kernel_rfl
theorem cut_gl7 : List.flatMap (glF Tryz.prog) cut7 = [7, 8] := by kernel_rfl
theorem cut_er7 : List.filterMap (erF Tryz.prog) cut7 = [] := by kernel_rfl
theorem cut_ip8 : List.filterMap (ipF Tryz.prog) cut8 = [] := by kernel_rfl
theorem cut_gl8 : List.flatMap (glF Tryz.prog) cut8 = [] := by kernel_rfl
theorem cut_er8 : List.filterMap (erF Tryz.prog) cut8 = [] := by kernel_rfl
theorem cut_ip9 : List.filterMap (ipF Tryz.prog) cut9 = [] := by kernel_rfl
theorem cut_gl9 : List.flatMap (glF Tryz.prog) cut9 = [] := by kernel_rfl
theorem cut_er9 : List.filterMap (erF Tryz.prog) cut9 = [] := by kernel_rfl
theorem cut_inPlace : Tryz.prog.inPlace 4 = ["internal/bytealg.CountString", "internal/bytealg.IndexByteString", "internal/bytealg.IndexString", "internal/abi.NoEscape", "internal/bytealg.MakeNoZero", "internal/reflectlite.ValueOf", "(internal/reflectlite.Value).Type", "(internal/reflectlite.Value).IsNil", "internal/reflectlite.TypeOf", "(internal/reflectlite.Value).Elem", "(internal/reflectlite.Value).Set", "slices.overlaps[*crier/device.Device]", "slices.overlaps[crier/births.birth]"] := by
  show List.filterMap (ipF Tryz.prog) (Tryz.prog.closure 4) = _
  rw [cut_all]; simp only [List.filterMap_append, cut_ip0, cut_ip1, cut_ip2, cut_ip3, cut_ip4, cut_ip5, cut_ip6, cut_ip7, cut_ip8, cut_ip9, List.nil_append, List.append_nil, List.cons_append]
theorem cut_gl : List.flatMap (glF Tryz.prog) (Tryz.prog.closure 4) = [2, 3, 4, 4, 4, 0, 1, 1, 5, 6, 7, 8] := by
  rw [cut_all]; simp only [List.flatMap_append, cut_gl0, cut_gl1, cut_gl2, cut_gl3, cut_gl4, cut_gl5, cut_gl6, cut_gl7, cut_gl8, cut_gl9, List.nil_append, List.append_nil, List.cons_append]
theorem cut_er : List.filterMap (erF Tryz.prog) (Tryz.prog.closure 4) = ["internal/bytealg.MaxLen"] := by
  rw [cut_all]; simp only [List.filterMap_append, cut_er0, cut_er1, cut_er2, cut_er3, cut_er4, cut_er5, cut_er6, cut_er7, cut_er8, cut_er9, List.append_nil]
theorem cut_named : Tryz.prog.varsNamed 4 = Rows.auditZeroRow.named := by
  show (((List.flatMap (glF Tryz.prog) (Tryz.prog.closure 4)).eraseDups).filterMap (fun g => (Tryz.prog.globals[g]?).map (·.name)) ++ List.filterMap (erF Tryz.prog) (Tryz.prog.closure 4)).eraseDups = _
  rw [cut_gl, cut_er]; kernel_rfl
theorem az_k10 : (Rows.auditZeroRow.inPlace == Tryz.pinned.checked.prog.inPlace 4) = true := by
  have h : Tryz.pinned.checked.prog.inPlace 4 = Rows.auditZeroRow.inPlace := cut_inPlace.trans rfl
  rw [h]; exact beq_self_eq_true _
theorem az_k13 : (Rows.auditZeroRow.named == Tryz.pinned.checked.prog.varsNamed 4) = true := by
  have h : Tryz.pinned.checked.prog.varsNamed 4 = Rows.auditZeroRow.named := cut_named
  rw [h]; exact beq_self_eq_true _
end Go.Proofs.YtacbahmmmndmbaaGreatDoor
