/-
  ScriptBack: the closed facts that its row asks for, a piece at a time.
-/
import Derived.Test.YtlggkcgpbkaifaaGreatDoorRows
import Derived.Test.YtlggkcgpbkaifaaGreatDoorDkJ
import Derived.Test.YtlggkcgpbkaifaaGreatDoorDkJv
import Derived.Test.YtlggkcgpbkaifaaGreatDoorDkJc
set_option linter.unusedSimpArgs false
set_option linter.unusedVariables false
namespace Go.Ab.Dk4
open Go Go.Proofs Go.Proofs.YtlggkcgpbkaifaaGreatDoor
set_option maxRecDepth 100000
theorem j1 : OpenClaim.wf (OpenSpec.ofChange Rows.scriptBackSpec) Rows.scriptBackRow = true := by kernel_rfl
theorem j4 : (Tryz.f4.params.all fun x => Tryz.prog.readableRec x) = true := by kernel_rfl
theorem j5 : namedTie Tryz.prog Rows.scriptBackRow.named Rows.scriptBackSpec.vars = true := by kernel_rfl
def reached : List Nat := [4, 13, 7, 6, 5, 17, 38, 79, 80, 154, 81, 155, 255, 362, 82, 157, 156, 187, 158, 160, 159, 256, 39, 83, 40, 84, 161, 257, 258, 163, 261, 263, 184, 238, 237, 19, 44, 95,
  20, 294, 9, 21, 45, 46, 22, 47, 23, 48, 96, 24, 265, 396, 397, 398, 521, 587, 399, 262, 260, 164, 162, 259, 85, 166, 165, 264, 363, 364, 41, 42, 86, 87, 167, 175, 169,
  277, 278, 279, 280, 281, 282, 283, 266, 365, 366, 475, 461, 300, 539, 589, 555, 540, 590, 615, 592, 541, 476, 562, 543, 563, 515, 564, 518, 565, 603, 509, 516, 583, 581,
  612, 595, 582, 544, 580, 611, 445, 542, 591, 616, 594, 593, 545, 585, 614, 642, 586, 477, 566, 567, 568, 267, 104, 108, 367, 478, 185, 295, 296, 569, 600, 632, 355, 604,
  633, 634, 668, 635, 664, 665, 636, 669, 670, 682, 637, 638, 639, 640, 570, 459, 554, 601, 298, 401, 522, 523, 400, 403, 524, 525, 402, 405, 526, 527, 404, 168, 135, 268,
  269, 239, 270, 286, 371, 370, 271, 284, 369, 272, 273, 368, 274, 275, 276, 170, 171, 285, 172, 173, 174, 54, 125, 206, 330, 332, 440, 331, 207, 208, 333, 334, 130, 211,
  212, 218, 213, 210, 215, 214, 217, 216, 220, 219, 222, 221, 195, 299, 301, 407, 406, 528, 302, 303, 409, 408, 529, 304, 305, 306, 411, 410, 530, 307, 308, 309, 310, 413,
  412, 531, 311, 312, 313, 314, 415, 414, 532, 315, 198, 292, 235, 199, 118, 197, 196, 316, 317, 72, 318, 350, 351, 319, 416, 417, 533, 470, 469, 126, 100, 183, 293, 395,
  70, 287, 372, 480, 488, 487, 479, 482, 481, 484, 571, 493, 483, 486, 485, 490, 573, 572, 489, 492, 491, 495, 494, 422, 373, 496, 497, 419, 535, 588, 374, 498, 347, 464,
  465, 466, 556, 557, 499, 513, 576, 607, 608, 577, 609, 575, 606, 559, 641, 671, 683, 578, 579, 610, 288, 289, 376, 377, 378, 379, 178, 290, 188, 105, 382, 389, 390, 109,
  186, 297, 391, 510, 511, 512, 392, 514, 517, 584, 613, 393, 519, 113, 394, 520, 380, 381, 227, 349, 468, 348, 467, 558, 602, 560, 561, 228, 500, 501, 502, 503, 504, 353,
  574, 605, 505, 383, 384, 385, 225, 336, 337, 441, 442, 338, 443, 339, 340, 444, 341, 446, 447, 546, 448, 547, 449, 450, 548, 451, 343, 457, 553, 456, 551, 598, 552, 599,
  624, 625, 663, 626, 627, 666, 667, 681, 628, 629, 630, 631, 458, 342, 452, 453, 117, 455, 454, 550, 549, 597, 596, 617, 643, 644, 645, 646, 647, 648, 649, 672, 650, 673,
  651, 652, 674, 653, 675, 654, 655, 618, 619, 621, 620, 656, 676, 657, 677, 684, 688, 658, 689, 692, 693, 694, 695, 696, 690, 678, 685, 691, 697, 698, 679, 687, 686, 622,
  623, 659, 660, 680, 661, 662, 344, 460, 386, 387, 506, 507, 508, 388, 375, 89, 90, 177, 88, 176, 53, 91, 112, 103, 10, 25, 49, 33, 73, 139, 153, 254, 246, 247, 248, 359,
  50, 77, 51, 26, 56, 97, 182, 242, 243, 354, 356, 244, 245, 357, 358, 472, 473, 29, 12, 30, 71, 138, 52, 55, 57, 58, 98, 59, 99, 114, 190, 191, 192, 193, 194, 189, 60,
  102, 101, 61, 107, 106, 62, 111, 110, 63, 116, 115, 119, 200, 320, 15, 34, 74, 141, 140, 142, 144, 249, 143, 146, 251, 361, 180, 291, 250, 360, 474, 145, 35, 75, 147,
  148, 76, 149, 252, 150, 151, 253, 152, 36, 18, 43, 92, 179, 93, 181, 94, 37, 78, 28, 64, 120, 201, 321, 322, 418, 534, 121, 122, 202, 123, 203, 323, 324, 325, 326, 420,
  327, 421, 204, 328, 134, 329, 424, 432, 431, 423, 426, 425, 428, 536, 437, 427, 430, 429, 434, 538, 537, 433, 436, 435, 439, 438, 124, 205, 131, 224, 223, 335, 65, 127,
  129, 128, 209, 66, 67, 132, 226, 345, 346, 462, 463, 133, 229, 230, 231, 232, 233, 234, 236, 352, 471, 68, 136, 69, 137, 240, 241, 27, 31, 14, 32, 16]
theorem clo : Tryz.prog.closure 4 = reached := Go.Ab.DkJ.closure_of Go.Ab.DkJ.fuel (by kernel_rfl)
theorem j10 : (Rows.scriptBackRow.inPlace == Tryz.prog.inPlace 4) = true := by
  unfold Program.inPlace
  rw [clo]
  kernel_rfl
theorem unf : Tryz.prog.unfollowed 4 = true := by
  unfold Program.unfollowed
  rw [clo]
  kernel_rfl
theorem j11 : (Rows.scriptBackRow.unfollowed == Tryz.prog.unfollowed 4) = true := by
  rw [unf]
  kernel_rfl
theorem j12 : (Rows.scriptBackRow.recurses == Tryz.prog.recurses 4) = true := by
  unfold Program.recurses
  rw [unf, Bool.true_or]
  kernel_rfl
theorem j13 : (Rows.scriptBackRow.named == Tryz.prog.varsNamed 4) = true := by
  rw [Go.Ab.DkJ.named_of (r := Rows.scriptBackRow.named) clo (by kernel_rfl) (by kernel_rfl)]
  exact beq_self_eq_true _
theorem j14 : (Rows.scriptBackRow.maps == (Tryz.f4.params.toList ++ Rows.scriptBackSpec.plain.varTypes Tryz.prog).any (Tryz.prog.mapsRec ·)) = true := by kernel_rfl
theorem j15 : (Rows.scriptBackRow.ifaces == (Tryz.f4.params.toList ++ Rows.scriptBackSpec.plain.varTypes Tryz.prog).any (Tryz.prog.ifacesRec ·)) = true := by kernel_rfl
theorem j16 : (Rows.scriptBackRow.mapsOut == Tryz.prog.mapsAmong Tryz.f4.resultTypes.toList) = true := by kernel_rfl
theorem j17 : (Rows.scriptBackRow.loops == (Tryz.f4.params.toList ++ Rows.scriptBackSpec.plain.varTypes Tryz.prog).any (Tryz.prog.loopsFrom ·)) = true := by kernel_rfl
theorem j18 : (Rows.scriptBackRow.wideKeys == (Tryz.f4.params.toList ++ Rows.scriptBackSpec.plain.varTypes Tryz.prog ++ Tryz.f4.resultTypes.toList).any (Tryz.prog.wideKeysFrom ·)) = true := by kernel_rfl
theorem j19 : (Rows.scriptBackSpec.vars.all (Tryz.prog.varReadable ·)) = true := by kernel_rfl
theorem j20 : (Tryz.f4.resultTypes.all (fun t => Tryz.prog.readableRec t && decide (t < Tryz.prog.types.size))) = true := by kernel_rfl
theorem j21 : (Rows.scriptBackRow.ifacesOut == Tryz.f4.resultTypes.toList.any (Tryz.prog.ifacesRec ·)) = true := by kernel_rfl
theorem j22 : (Rows.scriptBackRow.loopsOut == Tryz.f4.resultTypes.toList.any (Tryz.prog.loopsFrom ·)) = true := by kernel_rfl
theorem j23 : (Rows.scriptBackRow.plainKeys == Tryz.prog.plainKeys) = true := by kernel_rfl
theorem j24 : (Rows.scriptBackRow.lifted == Tryz.prog.liftsFinal) = true := by kernel_rfl
theorem j25 : (Tryz.prog.make == some Rows.scriptBackRow.make) = true := by kernel_rfl
theorem j26 : (Rows.scriptBackRow.kinds == if Rows.scriptBackRow.domain.isEmpty then [] else Tryz.f4.params.toList.map fun t => match Tryz.prog.underlying t with | some (.int k) => some k | _ => none) = true := by kernel_rfl
theorem j27 : (Rows.scriptBackRow.veiled == (Tryz.f4.params.toList ++ Rows.scriptBackSpec.plain.varTypes Tryz.prog ++ Tryz.f4.resultTypes.toList).any (Tryz.prog.veiledRec ·)) = true := by kernel_rfl
theorem j28 : Rows.scriptBackRow.veiledFits Tryz.prog Tryz.f4.params.toList (Tryz.f4.params.toList ++ Rows.scriptBackSpec.plain.varTypes Tryz.prog ++ Tryz.f4.resultTypes.toList) = true := by kernel_rfl
theorem named : Tryz.prog.funcNamed Rows.scriptBackRow.func = some 4 := by kernel_rfl
theorem closed : joinedFacts Tryz.prog 4 Tryz.f4 Rows.scriptBackSpec Rows.scriptBackRow = true := by
  unfold joinedFacts
  simp only [j1, Go.Ab.DkJ.laidOut, Go.Ab.DkJ.mapsRowed, j4, j5, Go.Ab.DkJ.stops, Go.Ab.DkJ.stopKnobs, j10, j11, j12, j13, j14, j15, j16, j17, j18, j19, j20, j21, j22, j23, Go.Ab.DkJ.heard, Go.Ab.DkJ.enter, j24, j25, j26, j27, j28, Bool.and_true]
  rfl
end Go.Ab.Dk4
