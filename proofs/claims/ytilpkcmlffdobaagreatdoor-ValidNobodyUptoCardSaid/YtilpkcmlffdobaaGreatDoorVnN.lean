/- Which variables the functions that the law reaches name: by parts. Printed by gen_vnamed.py. -/
import Derived.Test.YtilpkcmlffdobaaGreatDoorRows
import Derived.JoinedCond
import Derived.ProofKit
namespace Go.Proofs.YtilpkcmlffdobaaGreatDoor
namespace validNobody
set_option linter.unusedSimpArgs false
set_option linter.unusedVariables false
def vc0 : List Nat := [3, 4, 9, 12, 20, 16, 33, 21, 43, 44, 45, 131, 229, 310, 132, 231, 311, 312, 421, 420, 316, 313, 314, 422, 423, 315, 424, 168, 283, 425, 460, 481, 559, 516, 572, 517, 518, 519, 426, 520, 521, 522, 230, 317, 318, 319, 320, 427, 428, 429, 129, 225, 308, 309, 418, 459, 546, 169, 512, 81]
def vc1 : List Nat := [513, 514, 403, 404, 406, 493, 408, 496, 564, 494, 563, 495, 544, 581, 483, 482, 515, 402, 405, 407, 419, 226, 46, 130, 227, 228, 13, 22, 47, 133, 134, 232, 233, 321, 135, 234, 235, 323, 322, 430, 236, 196, 293, 237, 325, 324, 431, 238, 239, 326, 139, 251, 240, 23, 48, 137, 138, 140, 242, 243]
def vc2 : List Nat := [329, 103, 214, 241, 328, 327, 432, 244, 331, 330, 433, 245, 246, 333, 334, 435, 437, 523, 343, 449, 450, 573, 595, 596, 610, 597, 535, 536, 598, 611, 612, 613, 599, 600, 601, 602, 524, 259, 348, 436, 332, 434, 248, 250, 249, 337, 267, 279, 247, 336, 335, 438, 136, 30, 83, 170, 171, 172, 24, 25]
def vc3 : List Nat := [49, 50, 51, 141, 52, 142, 252, 256, 341, 262, 349, 340, 440, 526, 527, 575, 528, 529, 576, 577, 603, 530, 531, 532, 533, 258, 344, 451, 146, 260, 261, 345, 346, 347, 53, 54, 143, 253, 300, 255, 254, 338, 439, 525, 574, 339, 55, 144, 257, 342, 441, 442, 534, 443, 444, 537, 538, 578, 445, 446]
def vc4 : List Nat := [447, 448, 56, 67, 100, 205, 145, 57, 58, 26, 73, 59, 60, 61, 62, 63, 64, 65, 66, 68, 69, 70, 147, 263, 350, 264, 351, 452, 539, 352, 353, 453, 540, 579, 454, 455, 456, 457, 208, 541, 542, 580, 543, 354, 265, 266, 71, 148, 72, 149, 268, 5, 6, 7, 8, 11, 10, 14, 27, 74]
def vc5 : List Nat := [150, 269, 355, 166, 280, 374, 484, 560, 458, 545, 356, 461, 462, 357, 463, 358, 464, 151, 152, 153, 270, 359, 360, 465, 466, 547, 582, 583, 271, 361, 362, 368, 475, 370, 477, 371, 478, 479, 555, 470, 553, 586, 604, 364, 365, 467, 548, 584, 549, 468, 489, 561, 587, 99, 207, 605, 372, 480, 558, 281]
def vc6 : List Nat := [375, 376, 282, 377, 485, 378, 379, 98, 206, 298, 409, 410, 497, 498, 411, 412, 499, 500, 565, 566, 486, 380, 550, 585, 551, 552, 469, 212, 301, 302, 413, 502, 501, 503, 414, 567, 303, 590, 589, 588, 591, 606, 592, 593, 607, 608, 609, 568, 594, 415, 275, 75, 154, 272, 78, 155, 274, 366, 471, 554]
def vc7 : List Nat := [472, 473, 367, 474, 556, 273, 363, 156, 157, 276, 369, 476, 557, 277, 76, 158, 159, 28, 77, 160, 161, 29, 79, 80, 167, 82, 163, 278, 373, 164, 162, 165, 18, 31, 84, 173, 284, 381, 390, 383, 382, 384, 385, 487, 386, 488, 387, 388, 389, 391, 392, 490, 393, 491, 492, 562, 394, 285, 395, 396]
def vc8 : List Nat := [397, 398, 307, 399, 400, 174, 176, 175, 177, 15, 32, 34, 88, 89, 91, 92, 192, 193, 194, 195, 199, 295, 292, 197, 294, 198, 200, 94, 90, 191, 190, 291, 93, 95, 202, 201, 296, 96, 204, 203, 297, 85, 178, 179, 286, 180, 181, 182, 287, 289, 401, 288, 183, 184, 290, 185, 186, 187, 188, 86]
def vc9 : List Nat := [87, 189, 17, 37, 36, 35, 97, 38, 101, 19, 39, 102, 209, 299, 211, 213, 304, 416, 504, 506, 505, 569, 305, 210, 104, 105, 106, 40, 107, 42, 108, 215, 109, 216, 306, 417, 508, 507, 509, 570, 510, 571, 511, 110, 111, 217, 112, 113, 114, 115, 116, 41, 218, 221, 219, 220, 117, 223, 222, 118]
def vc10 : List Nat := [119, 120, 224, 121, 122, 123, 124, 125, 126, 127, 128]
def vcl : List Nat := vc0 ++ (vc1 ++ (vc2 ++ (vc3 ++ (vc4 ++ (vc5 ++ (vc6 ++ (vc7 ++ (vc8 ++ (vc9 ++ (vc10))))))))))
set_option maxRecDepth 100000 in
theorem v_cl : Tryz.prog.closure 3 = vcl := by kernel_rfl
theorem v_g0 : vc0.flatMap (fun g => ((Tryz.prog.funcs[g]?).bind (·.body)).elim [] Code.globalsNamed) = [0] := by kernel_rfl
theorem v_f0 : vc0.filterMap (fun g => (Tryz.prog.funcs[g]?).bind fun fn => if fn.body.isNone then entryReads.lookup fn.name else none) = ([] : List String) := by kernel_rfl
theorem v_g1 : vc1.flatMap (fun g => ((Tryz.prog.funcs[g]?).bind (·.body)).elim [] Code.globalsNamed) = [9, 10] := by kernel_rfl
theorem v_f1 : vc1.filterMap (fun g => (Tryz.prog.funcs[g]?).bind fun fn => if fn.body.isNone then entryReads.lookup fn.name else none) = ["internal/bytealg.MaxLen"] := by kernel_rfl
theorem v_g2 : vc2.flatMap (fun g => ((Tryz.prog.funcs[g]?).bind (·.body)).elim [] Code.globalsNamed) = ([] : List Nat) := by kernel_rfl
theorem v_f2 : vc2.filterMap (fun g => (Tryz.prog.funcs[g]?).bind fun fn => if fn.body.isNone then entryReads.lookup fn.name else none) = ([] : List String) := by kernel_rfl
theorem v_g3 : vc3.flatMap (fun g => ((Tryz.prog.funcs[g]?).bind (·.body)).elim [] Code.globalsNamed) = ([] : List Nat) := by kernel_rfl
theorem v_f3 : vc3.filterMap (fun g => (Tryz.prog.funcs[g]?).bind fun fn => if fn.body.isNone then entryReads.lookup fn.name else none) = ([] : List String) := by kernel_rfl
theorem v_g4 : vc4.flatMap (fun g => ((Tryz.prog.funcs[g]?).bind (·.body)).elim [] Code.globalsNamed) = [7, 8] := by kernel_rfl
theorem v_f4 : vc4.filterMap (fun g => (Tryz.prog.funcs[g]?).bind fun fn => if fn.body.isNone then entryReads.lookup fn.name else none) = ([] : List String) := by kernel_rfl
theorem v_g5 : vc5.flatMap (fun g => ((Tryz.prog.funcs[g]?).bind (·.body)).elim [] Code.globalsNamed) = [2, 2, 2, 1, 1, 1, 1, 6] := by kernel_rfl
theorem v_f5 : vc5.filterMap (fun g => (Tryz.prog.funcs[g]?).bind fun fn => if fn.body.isNone then entryReads.lookup fn.name else none) = ([] : List String) := by kernel_rfl
theorem v_g6 : vc6.flatMap (fun g => ((Tryz.prog.funcs[g]?).bind (·.body)).elim [] Code.globalsNamed) = [3, 4, 5, 11, 12] := by kernel_rfl
theorem v_f6 : vc6.filterMap (fun g => (Tryz.prog.funcs[g]?).bind fun fn => if fn.body.isNone then entryReads.lookup fn.name else none) = ([] : List String) := by kernel_rfl
theorem v_g7 : vc7.flatMap (fun g => ((Tryz.prog.funcs[g]?).bind (·.body)).elim [] Code.globalsNamed) = ([] : List Nat) := by kernel_rfl
theorem v_f7 : vc7.filterMap (fun g => (Tryz.prog.funcs[g]?).bind fun fn => if fn.body.isNone then entryReads.lookup fn.name else none) = ([] : List String) := by kernel_rfl
theorem v_g8 : vc8.flatMap (fun g => ((Tryz.prog.funcs[g]?).bind (·.body)).elim [] Code.globalsNamed) = ([] : List Nat) := by kernel_rfl
theorem v_f8 : vc8.filterMap (fun g => (Tryz.prog.funcs[g]?).bind fun fn => if fn.body.isNone then entryReads.lookup fn.name else none) = ([] : List String) := by kernel_rfl
theorem v_g9 : vc9.flatMap (fun g => ((Tryz.prog.funcs[g]?).bind (·.body)).elim [] Code.globalsNamed) = ([] : List Nat) := by kernel_rfl
theorem v_f9 : vc9.filterMap (fun g => (Tryz.prog.funcs[g]?).bind fun fn => if fn.body.isNone then entryReads.lookup fn.name else none) = ([] : List String) := by kernel_rfl
theorem v_g10 : vc10.flatMap (fun g => ((Tryz.prog.funcs[g]?).bind (·.body)).elim [] Code.globalsNamed) = ([] : List Nat) := by kernel_rfl
theorem v_f10 : vc10.filterMap (fun g => (Tryz.prog.funcs[g]?).bind fun fn => if fn.body.isNone then entryReads.lookup fn.name else none) = ([] : List String) := by kernel_rfl
theorem v_g : vcl.flatMap (fun g => ((Tryz.prog.funcs[g]?).bind (·.body)).elim [] Code.globalsNamed) = [0, 9, 10, 7, 8, 2, 2, 2, 1, 1, 1, 1, 6, 3, 4, 5, 11, 12] := by
  unfold vcl
  rw [List.flatMap_append, List.flatMap_append, List.flatMap_append, List.flatMap_append, List.flatMap_append, List.flatMap_append, List.flatMap_append, List.flatMap_append, List.flatMap_append, List.flatMap_append]
  rw [v_g0, v_g1, v_g2, v_g3, v_g4, v_g5, v_g6, v_g7, v_g8, v_g9, v_g10]
  rfl
theorem v_f : vcl.filterMap (fun g => (Tryz.prog.funcs[g]?).bind fun fn => if fn.body.isNone then entryReads.lookup fn.name else none) = ["internal/bytealg.MaxLen"] := by
  unfold vcl
  rw [List.filterMap_append, List.filterMap_append, List.filterMap_append, List.filterMap_append, List.filterMap_append, List.filterMap_append, List.filterMap_append, List.filterMap_append, List.filterMap_append, List.filterMap_append]
  rw [v_f0, v_f1, v_f2, v_f3, v_f4, v_f5, v_f6, v_f7, v_f8, v_f9, v_f10]
  rfl
theorem f_varsNamed : (Rows.validNobodyUptoRow.named == Tryz.prog.varsNamed 3) = true := by
  unfold Program.varsNamed
  rw [v_cl, v_g, v_f]
  kernel_rfl
end validNobody
end Go.Proofs.YtilpkcmlffdobaaGreatDoor
