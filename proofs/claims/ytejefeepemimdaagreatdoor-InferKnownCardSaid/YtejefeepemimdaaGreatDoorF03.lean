/- The closure of the law's function, what it names; no function starts a goroutine. Part of the proof that InferKnown returns true on every schedule, its listed variables laid as the text lays them. -/
import Derived.Test.YtejefeepemimdaaGreatDoorF02
import Derived.Test.YtejefeepemimdaaGreatDoorF01
/- The closure of a function, what it names. Printed by a program. -/
namespace Go.Proofs.ClF
open Go Go.Tab
set_option maxRecDepth 100000
theorem hT : FL.map (·.map (info Tryz.prog)) = T := by
  simp only [FL, T, List.map_cons, List.map_nil, row0, row1, row2, row3, row4, row5, row6, row7, row8, row9, row10, row11, row12, row13, row14, row15, row16, row17, row18, row19, row20, row21, row22, row23, row24, row25, row26, row27, row28, row29]
noncomputable def L : List Nat := [3, 6, 5, 4, 7, 9, 15, 29, 48, 49, 50, 30, 51, 102, 163, 103, 55, 104, 164, 105, 165, 244, 166, 167, 168, 56, 106, 169, 245, 170, 246, 52, 53, 57, 54, 107, 73, 117, 186, 171, 247, 252, 253, 254, 324, 58, 59, 60, 108, 16, 17, 31, 32, 18, 33, 61, 35, 19, 62, 34, 63, 36, 38, 39, 65, 66, 67, 109, 110, 172, 173, 174, 175, 176, 248, 37, 64, 177, 178, 249, 179, 180, 250, 181, 182, 68, 10, 20, 40, 69, 111, 112, 130, 194, 192, 259, 326, 195, 262, 327, 263, 196, 113, 114, 183, 251, 115, 184, 70, 71, 116, 185, 72, 74, 119, 188, 255, 325, 408, 409, 340, 524, 525, 410, 411, 526, 527, 608, 609, 118, 187, 120, 121, 123, 190, 256, 122, 189, 41, 75, 124, 76, 125, 191, 257, 258, 77, 126, 78, 127, 79, 23, 43, 96, 160, 25, 241, 316, 402, 222, 291, 355, 356, 357, 432, 354, 358, 433, 417, 359, 360, 434, 544, 435, 361, 362, 436, 437, 345, 419, 529, 610, 530, 531, 420, 532, 421, 533, 611, 422, 534, 201, 269, 339, 268, 330, 336, 331, 412, 332, 413, 414, 333, 415, 416, 528, 334, 335, 337, 338, 423, 242, 99, 317, 403, 520, 521, 606, 658, 318, 319, 321, 322, 320, 297, 370, 128, 371, 372, 493, 591, 592, 373, 495, 496, 593, 494, 348, 374, 375, 498, 499, 595, 45, 596, 305, 379, 497, 594, 376, 265, 328, 404, 323, 406, 523, 405, 522, 607, 407, 243, 161, 162, 44, 97, 98, 100, 101, 42, 80, 21, 81, 22, 82, 129, 193, 260, 261, 276, 285, 83, 131, 197, 264, 198, 84, 85, 86, 132, 199, 266, 133, 200, 267, 329, 134, 157, 135, 141, 216, 144, 87, 88, 136, 137, 202, 270, 341, 271, 203, 272, 204, 273, 209, 210, 215, 274, 342, 343, 418, 344, 212, 280, 346, 424, 535, 211, 275, 205, 138, 206, 277, 278, 279, 139, 207, 208, 140, 213, 214, 281, 142, 217, 147, 89, 143, 145, 90, 146, 218, 282, 347, 425, 536, 426, 293, 284, 283, 91, 148, 219, 287, 286, 349, 220, 289, 288, 350, 351, 352, 427, 537, 428, 429, 538, 612, 480, 92, 149, 151, 150, 221, 290, 353, 431, 540, 613, 541, 542, 614, 659, 660, 430, 539, 543, 509, 615, 93, 152, 223, 292, 224, 294, 225, 295, 363, 438, 545, 476, 546, 616, 439, 440, 547, 441, 548, 549, 442, 550, 551, 617, 618, 619, 661, 696, 730, 620, 662, 621, 443, 552, 622, 623, 564, 444, 445, 553, 624, 663, 697, 578, 554, 625, 626, 664, 698, 731, 749, 745, 753, 758, 759, 633, 670, 709, 754, 699, 446, 447, 448, 555, 627, 665, 700, 701, 732, 733, 734, 750, 737, 738, 735, 736, 751, 702, 628, 666, 667, 703, 704, 739, 740, 706, 705, 741, 742, 752, 647, 566, 729, 306, 380, 381, 505, 748, 756, 757, 763, 567, 629, 449, 487, 587, 450, 488, 451, 556, 452, 557, 558, 630, 668, 453, 454, 489, 588, 455, 456, 559, 631, 457, 560, 632, 669, 707, 708, 743, 458, 561, 459, 562, 563, 460, 565, 461, 569, 634, 636, 635, 671, 568, 462, 570, 571, 637, 672, 710, 673, 463, 572, 464, 573, 465, 575, 638, 639, 574, 466, 576, 640, 467, 468, 469, 470, 577, 641, 579, 642, 674, 643, 644, 675, 711, 712, 713, 714, 715, 744, 716, 728, 717, 676, 718, 677, 601, 656, 695, 655, 654, 719, 234, 304, 377, 500, 597, 652, 653, 378, 501, 502, 503, 598, 504, 720, 746, 678, 721, 747, 755, 760, 761, 762, 679, 722, 680, 723, 681, 682, 683, 684, 685, 580, 471, 581, 472, 473, 582, 645, 686, 687, 646, 688, 724, 689, 725, 692, 726, 727, 474, 583, 648, 690, 691, 475, 584, 649, 693, 694, 650, 477, 364, 296, 365, 478, 484, 482, 513, 514, 512, 391, 585, 586, 368, 479, 481, 483, 397, 366, 485, 486, 398, 401, 367, 369, 490, 491, 589, 651, 590, 492, 153, 226, 227, 228, 298, 229, 230, 299, 94, 154, 155, 231, 232, 233, 300, 303, 302, 301, 156, 158, 235, 236, 237, 238, 307, 382, 383, 506, 599, 308, 384, 385, 507, 600, 239, 159, 240, 309, 386, 393, 387, 508, 388, 389, 390, 310, 311, 392, 510, 511, 394, 312, 395, 396, 313, 399, 314, 400, 515, 516, 602, 603, 517, 604, 518, 519, 605, 657, 315, 95, 24, 8, 11, 26, 12, 13, 27, 14, 28, 46, 47]
theorem hN : 1 + (T.flatten.map fun x => x.leads.length + 1).sum = 3172 := by kernel_rfl
theorem hV : visit (fun f => (nth2 28 dflt T f).leads) 3172 [3] 0 [] = L := by kernel_rfl
theorem closure : Tryz.prog.closure 3 = L := closure_table (by decide) hF hT hr hN hV
theorem inPlace : Tryz.prog.inPlace 3 = ["internal/abi.NoEscape", "internal/bytealg.IndexByteString", "internal/bytealg.IndexString", "internal/bytealg.abigen_runtime_cmpstring", "internal/bytealg.MakeNoZero", "slices.overlaps[string]", "slices.overlaps[hallmark/api.Value]", "internal/bytealg.CountString", "slices.overlaps[hallmark/api.Type]", "slices.overlaps[bool]"] := inPlace_table (by decide) hF hT hr closure (by kernel_rfl)
theorem hG : (L.flatMap fun g => (nth2 28 dflt T g).globs).eraseDups = [1, 2, 3, 0, 4, 8, 9, 5, 6, 7] := by kernel_rfl
theorem hS : (L.filterMap fun g => (nth2 28 dflt T g).reads) = ["internal/bytealg.MaxLen"] := by kernel_rfl
theorem varsNamed : Tryz.prog.varsNamed 3 = ["unicode/utf8.first", "unicode/utf8.acceptRanges", "internal/bytealg.MaxLen", "hallmark/syntax.bindings", "internal/strconv.uint64pow10", "math/bits.deBruijn32tab", "math/bits.deBruijn64tab", "hallmark/narrow.facing", "strconv.ErrSyntax", "strconv.ErrRange"] := named_table (by decide) hF hT hr closure hG hS (by kernel_rfl)
theorem mem9 : 9 ∈ L := by decide +kernel
noncomputable def body9 : Code := match Tryz.f9.body with | some x => x | none => .ret
theorem unfollowed : Tryz.prog.unfollowed 3 = true := unfollowed_at closure mem9 Tryz.func9 (b := body9) (by kernel_rfl) (by kernel_rfl)
theorem recurses : Tryz.prog.recurses 3 = true := recurses_of unfollowed
noncomputable def look16 : Code := match Tryz.f16.body with | some x => x | none => .ret
theorem looks : Tryz.prog.looks [] = true := looks_of Tryz.func16 (b := look16) (by kernel_rfl) (by kernel_rfl)
end Go.Proofs.ClF
/- No function starts a goroutine. Printed by a program. -/
namespace Go.Proofs.ClF
open Go Go.Tab
set_option maxRecDepth 100000
theorem go0 : fl0.any Func.goes = false := by kernel_rfl
theorem go1 : fl1.any Func.goes = false := by kernel_rfl
theorem go2 : fl2.any Func.goes = false := by kernel_rfl
theorem go3 : fl3.any Func.goes = false := by kernel_rfl
theorem go4 : fl4.any Func.goes = false := by kernel_rfl
theorem go5 : fl5.any Func.goes = false := by kernel_rfl
theorem go6 : fl6.any Func.goes = false := by kernel_rfl
theorem go7 : fl7.any Func.goes = false := by kernel_rfl
theorem go8 : fl8.any Func.goes = false := by kernel_rfl
theorem go9 : fl9.any Func.goes = false := by kernel_rfl
theorem go10 : fl10.any Func.goes = false := by kernel_rfl
theorem go11 : fl11.any Func.goes = false := by kernel_rfl
theorem go12 : fl12.any Func.goes = false := by kernel_rfl
theorem go13 : fl13.any Func.goes = false := by kernel_rfl
theorem go14 : fl14.any Func.goes = false := by kernel_rfl
theorem go15 : fl15.any Func.goes = false := by kernel_rfl
theorem go16 : fl16.any Func.goes = false := by kernel_rfl
theorem go17 : fl17.any Func.goes = false := by kernel_rfl
theorem go18 : fl18.any Func.goes = false := by kernel_rfl
theorem go19 : fl19.any Func.goes = false := by kernel_rfl
theorem go20 : fl20.any Func.goes = false := by kernel_rfl
theorem go21 : fl21.any Func.goes = false := by kernel_rfl
theorem go22 : fl22.any Func.goes = false := by kernel_rfl
theorem go23 : fl23.any Func.goes = false := by kernel_rfl
theorem go24 : fl24.any Func.goes = false := by kernel_rfl
theorem go25 : fl25.any Func.goes = false := by kernel_rfl
theorem go26 : fl26.any Func.goes = false := by kernel_rfl
theorem go27 : fl27.any Func.goes = false := by kernel_rfl
theorem go28 : fl28.any Func.goes = false := by kernel_rfl
theorem go29 : fl29.any Func.goes = false := by kernel_rfl
theorem noGo : Tryz.prog.funcs.any Func.goes = false := by
  rw [← Array.any_toList, hF]
  simp only [FL, List.flatten_cons, List.flatten_nil, List.any_append, List.any_nil, Bool.or_false, go0, go1, go2, go3, go4, go5, go6, go7, go8, go9, go10, go11, go12, go13, go14, go15, go16, go17, go18, go19, go20, go21, go22, go23, go24, go25, go26, go27, go28, go29]
end Go.Proofs.ClF
