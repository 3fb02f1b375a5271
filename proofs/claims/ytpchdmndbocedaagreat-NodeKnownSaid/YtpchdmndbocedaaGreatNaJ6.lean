/-
  NodeKnown: the closed facts that its row asks for, a piece at a time.
-/
import Derived.Test.YtpchdmndbocedaaGreatRows
import Derived.Test.YtpchdmndbocedaaGreatNaJ
import Derived.Test.YtpchdmndbocedaaGreatNaJv
set_option linter.unusedSimpArgs false
set_option linter.unusedVariables false
namespace Go.Ab.Nk.J6
open Go Go.Proofs Go.Proofs.YtpchdmndbocedaaGreat
set_option maxRecDepth 100000
theorem j1 : OpenClaim.wf (OpenSpec.ofChange Rows.nodeKnownSpec) Rows.nodeKnownRow = true := by kernel_rfl
theorem j4 : (Tryz.f6.params.all fun x => Tryz.prog.readableRec x) = true := by kernel_rfl
theorem j5 : namedTie Tryz.prog Rows.nodeKnownRow.named Rows.nodeKnownSpec.vars = true := by kernel_rfl
def reached : List Nat := [6, 11, 10, 40, 110, 111, 197, 112, 198, 289, 382, 113, 200, 199, 124, 201, 203, 202, 290, 30, 78, 41, 114, 204, 291, 292, 206, 295, 297, 93, 180, 262, 179, 280, 378,
  182, 181, 161, 266, 369, 370, 267, 371, 268, 372, 475, 269, 186, 281, 282, 283, 379, 476, 284, 296, 294, 207, 205, 293, 115, 209, 208, 298, 383, 384, 42, 43, 116, 117,
  210, 218, 212, 310, 311, 312, 313, 314, 315, 316, 299, 385, 386, 477, 465, 163, 527, 574, 543, 528, 575, 600, 577, 529, 478, 551, 531, 552, 516, 553, 519, 554, 588, 510,
  517, 569, 567, 597, 580, 568, 532, 566, 596, 449, 530, 576, 601, 579, 578, 533, 571, 599, 628, 572, 134, 231, 232, 233, 300, 47, 51, 387, 479, 122, 223, 224, 555, 585,
  617, 618, 589, 619, 620, 654, 621, 650, 651, 622, 655, 656, 668, 623, 624, 625, 626, 556, 463, 542, 586, 230, 328, 416, 417, 327, 330, 418, 419, 329, 332, 420, 421, 331,
  211, 157, 301, 302, 263, 303, 319, 391, 390, 304, 317, 389, 305, 306, 388, 307, 308, 309, 213, 214, 318, 215, 216, 217, 220, 148, 244, 346, 348, 444, 347, 160, 245, 349,
  350, 32, 80, 81, 87, 82, 79, 84, 83, 86, 85, 89, 88, 91, 90, 92, 162, 164, 271, 270, 373, 165, 166, 273, 272, 374, 167, 168, 169, 275, 274, 375, 170, 171, 172, 173, 277,
  276, 376, 174, 175, 176, 177, 279, 278, 377, 178, 130, 226, 227, 131, 56, 95, 94, 183, 184, 185, 34, 324, 325, 228, 96, 326, 97, 415, 98, 149, 246, 261, 368, 474, 550,
  320, 392, 481, 489, 488, 480, 483, 482, 485, 557, 494, 484, 487, 486, 491, 559, 558, 490, 493, 492, 496, 495, 426, 393, 497, 498, 423, 523, 573, 394, 499, 363, 468, 469,
  470, 544, 545, 500, 514, 562, 592, 593, 563, 594, 561, 591, 547, 627, 657, 669, 564, 565, 595, 321, 322, 396, 397, 398, 399, 222, 323, 133, 48, 402, 409, 410, 52, 123,
  225, 411, 511, 512, 513, 412, 515, 518, 570, 598, 413, 520, 61, 414, 521, 400, 401, 252, 365, 472, 364, 471, 546, 587, 548, 549, 253, 501, 502, 503, 504, 505, 367, 560,
  590, 506, 403, 404, 405, 250, 352, 353, 445, 446, 354, 447, 355, 356, 448, 357, 450, 451, 534, 452, 535, 453, 454, 536, 455, 359, 461, 541, 460, 539, 583, 540, 584, 609,
  610, 649, 611, 612, 652, 653, 667, 613, 614, 615, 616, 462, 358, 456, 457, 33, 459, 458, 538, 537, 582, 581, 602, 629, 630, 631, 632, 633, 634, 635, 658, 636, 659, 637,
  638, 660, 639, 661, 640, 641, 603, 604, 606, 605, 642, 662, 643, 663, 670, 674, 644, 675, 678, 679, 680, 681, 682, 676, 664, 671, 677, 683, 684, 665, 673, 672, 607, 608,
  645, 646, 666, 647, 648, 360, 464, 406, 407, 507, 508, 509, 408, 395, 119, 120, 221, 118, 219, 62, 121, 60, 46, 18, 22, 71, 143, 239, 337, 338, 422, 522, 144, 145, 240,
  146, 241, 339, 340, 341, 342, 424, 343, 425, 242, 344, 156, 345, 428, 436, 435, 427, 430, 429, 432, 524, 441, 431, 434, 433, 438, 526, 525, 437, 440, 439, 443, 442, 147,
  243, 153, 249, 248, 351, 72, 150, 152, 151, 247, 73, 74, 154, 251, 361, 362, 466, 467, 155, 254, 255, 256, 257, 258, 259, 29, 77, 260, 366, 473, 75, 158, 76, 159, 264,
  265, 23, 24, 25, 63, 26, 27, 28, 31]
theorem clo : Tryz.prog.closure 6 = reached := by
  unfold Program.closure
  rw [Go.Ab.Nk.J.fuel]
  kernel_rfl
theorem j10 : (Rows.nodeKnownRow.inPlace == Tryz.prog.inPlace 6) = true := by
  unfold Program.inPlace
  rw [clo]
  kernel_rfl
theorem unf : Tryz.prog.unfollowed 6 = true := by
  unfold Program.unfollowed
  rw [clo]
  kernel_rfl
theorem j11 : (Rows.nodeKnownRow.unfollowed == Tryz.prog.unfollowed 6) = true := by
  rw [unf]
  kernel_rfl
theorem j12 : (Rows.nodeKnownRow.recurses == Tryz.prog.recurses 6) = true := by
  unfold Program.recurses
  rw [unf, Bool.true_or]
  kernel_rfl
theorem j13 : (Rows.nodeKnownRow.named == Tryz.prog.varsNamed 6) = true := by
  rw [Go.Ab.Nk.J.named_of (r := Rows.nodeKnownRow.named) clo (by kernel_rfl) (by kernel_rfl)]
  exact beq_self_eq_true _
theorem j14 : (Rows.nodeKnownRow.maps == (Tryz.f6.params.toList ++ Rows.nodeKnownSpec.plain.varTypes Tryz.prog).any (Tryz.prog.mapsRec ·)) = true := by kernel_rfl
theorem j15 : (Rows.nodeKnownRow.ifaces == (Tryz.f6.params.toList ++ Rows.nodeKnownSpec.plain.varTypes Tryz.prog).any (Tryz.prog.ifacesRec ·)) = true := by kernel_rfl
theorem j16 : (Rows.nodeKnownRow.mapsOut == Tryz.prog.mapsAmong Tryz.f6.resultTypes.toList) = true := by kernel_rfl
theorem j17 : (Rows.nodeKnownRow.loops == (Tryz.f6.params.toList ++ Rows.nodeKnownSpec.plain.varTypes Tryz.prog).any (Tryz.prog.loopsFrom ·)) = true := by kernel_rfl
theorem j18 : (Rows.nodeKnownRow.wideKeys == (Tryz.f6.params.toList ++ Rows.nodeKnownSpec.plain.varTypes Tryz.prog ++ Tryz.f6.resultTypes.toList).any (Tryz.prog.wideKeysFrom ·)) = true := by kernel_rfl
theorem j19 : (Rows.nodeKnownSpec.vars.all (Tryz.prog.varReadable ·)) = true := by kernel_rfl
theorem j20 : (Tryz.f6.resultTypes.all (fun t => Tryz.prog.readableRec t && decide (t < Tryz.prog.types.size))) = true := by kernel_rfl
theorem j21 : (Rows.nodeKnownRow.ifacesOut == Tryz.f6.resultTypes.toList.any (Tryz.prog.ifacesRec ·)) = true := by kernel_rfl
theorem j22 : (Rows.nodeKnownRow.loopsOut == Tryz.f6.resultTypes.toList.any (Tryz.prog.loopsFrom ·)) = true := by kernel_rfl
theorem j23 : (Rows.nodeKnownRow.plainKeys == Tryz.prog.plainKeys) = true := by kernel_rfl
theorem j24 : (Rows.nodeKnownRow.lifted == Tryz.prog.liftsFinal) = true := by kernel_rfl
theorem j25 : (Tryz.prog.make == some Rows.nodeKnownRow.make) = true := by kernel_rfl
theorem j26 : (Rows.nodeKnownRow.kinds == if Rows.nodeKnownRow.domain.isEmpty then [] else Tryz.f6.params.toList.map fun t => match Tryz.prog.underlying t with | some (.int k) => some k | _ => none) = true := by kernel_rfl
theorem j27 : (Rows.nodeKnownRow.veiled == (Tryz.f6.params.toList ++ Rows.nodeKnownSpec.plain.varTypes Tryz.prog ++ Tryz.f6.resultTypes.toList).any (Tryz.prog.veiledRec ·)) = true := by kernel_rfl
theorem j28 : Rows.nodeKnownRow.veiledFits Tryz.prog Tryz.f6.params.toList (Tryz.f6.params.toList ++ Rows.nodeKnownSpec.plain.varTypes Tryz.prog ++ Tryz.f6.resultTypes.toList) = true := by kernel_rfl
theorem named : Tryz.prog.funcNamed Rows.nodeKnownRow.func = some 6 := by kernel_rfl
theorem closed : joinedFacts Tryz.prog 6 Tryz.f6 Rows.nodeKnownSpec Rows.nodeKnownRow = true := by
  unfold joinedFacts
  simp only [j1, Go.Ab.Nk.J.laidOut, Go.Ab.Nk.J.mapsRowed, j4, j5, Go.Ab.Nk.J.stops, Go.Ab.Nk.J.stopKnobs, j10, j11, j12, j13, j14, j15, j16, j17, j18, j19, j20, j21, j22, j23, Go.Ab.Nk.J.heard, Go.Ab.Nk.J.enter, j24, j25, j26, j27, j28, Bool.and_true]
  rfl
end Go.Ab.Nk.J6
