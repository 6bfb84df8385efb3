/- The closure of the law's function, what it names; no function starts a goroutine. Part of the proof that FastKnown returns true on every schedule, its listed variables laid as the text lays them. -/
import Derived.Test.YtiinfilmfcmicaaGreatDoorF02
import Derived.Test.YtiinfilmfcmicaaGreatDoorF01
/- The closure of a function, what it names. Printed by a program. -/
namespace Go.Proofs.ClF
open Go Go.Tab
set_option maxRecDepth 100000
theorem hT : FL.map (·.map (info Tryz.prog)) = T := by
  simp only [FL, T, List.map_cons, List.map_nil, row0, row1, row2, row3, row4, row5, row6, row7, row8, row9, row10, row11, row12, row13, row14, row15, row16, row17, row18, row19, row20, row21, row22, row23, row24, row25, row26, row27, row28, row29, row30, row31, row32, row33, row34]
noncomputable def L : List Nat := [3, 4, 5, 6, 8, 17, 39, 89, 192, 193, 194, 90, 195, 257, 328, 258, 198, 116, 191, 259, 329, 418, 330, 331, 332, 199, 260, 333, 419, 334, 420, 196, 197, 200, 51, 115, 61, 120, 224, 292, 382, 293, 294, 295, 383, 201, 26, 202, 261, 40, 41, 91, 92, 42, 93, 203, 95, 43, 204, 94, 205, 96, 98, 99, 207, 208, 209, 262, 263, 335, 336, 337, 338, 339, 421, 97, 206, 340, 341, 422, 342, 343, 423, 344, 345, 210, 18, 44, 100, 24, 22, 50, 52, 11, 25, 27, 63, 127, 28, 64, 128, 65, 29, 53, 54, 36, 88, 55, 117, 58, 59, 119, 223, 60, 62, 122, 226, 296, 384, 468, 469, 600, 599, 601, 470, 471, 602, 603, 721, 722, 121, 225, 123, 124, 126, 228, 297, 125, 227, 211, 264, 346, 265, 347, 397, 238, 487, 266, 348, 267, 349, 268, 103, 213, 285, 379, 105, 465, 591, 715, 450, 574, 676, 677, 678, 778, 656, 657, 762, 607, 679, 680, 545, 658, 779, 681, 682, 780, 781, 672, 768, 834, 873, 835, 836, 769, 837, 770, 838, 874, 771, 839, 429, 553, 669, 552, 661, 475, 662, 763, 663, 764, 765, 664, 766, 767, 833, 665, 666, 667, 668, 772, 466, 288, 592, 716, 812, 813, 861, 881, 593, 594, 596, 597, 595, 579, 688, 111, 689, 690, 793, 850, 851, 691, 794, 619, 732, 299, 386, 692, 693, 796, 797, 853, 37, 854, 387, 476, 795, 852, 694, 549, 659, 717, 598, 719, 815, 718, 814, 862, 720, 467, 380, 381, 214, 286, 287, 289, 290, 212, 269, 101, 270, 102, 271, 350, 424, 546, 547, 560, 569, 272, 351, 425, 548, 426, 273, 274, 275, 352, 427, 550, 353, 428, 551, 660, 354, 376, 355, 361, 444, 364, 276, 277, 356, 357, 430, 554, 670, 555, 431, 556, 432, 557, 437, 438, 443, 558, 148, 153, 239, 671, 440, 564, 236, 309, 393, 439, 559, 433, 358, 434, 561, 562, 563, 359, 435, 436, 360, 441, 442, 565, 362, 445, 367, 278, 363, 365, 279, 366, 446, 566, 396, 486, 614, 488, 407, 568, 567, 280, 368, 447, 570, 56, 118, 448, 572, 571, 171, 673, 674, 773, 726, 774, 775, 840, 875, 621, 281, 369, 371, 370, 449, 573, 675, 777, 842, 876, 843, 844, 877, 892, 893, 776, 841, 845, 801, 878, 282, 372, 451, 575, 452, 576, 453, 577, 398, 489, 615, 527, 303, 390, 490, 491, 616, 492, 529, 617, 493, 618, 417, 540, 541, 542, 654, 761, 832, 543, 655, 544, 494, 620, 733, 734, 409, 495, 496, 229, 298, 385, 472, 604, 605, 723, 724, 816, 473, 606, 725, 536, 649, 753, 754, 650, 755, 830, 651, 474, 497, 498, 499, 622, 735, 819, 865, 866, 882, 883, 884, 894, 887, 888, 885, 886, 895, 867, 736, 820, 821, 868, 869, 889, 890, 871, 870, 891, 230, 300, 16, 38, 301, 388, 477, 478, 608, 389, 479, 480, 609, 634, 737, 500, 623, 738, 501, 624, 502, 625, 503, 626, 627, 739, 822, 504, 505, 628, 740, 506, 507, 629, 741, 508, 414, 539, 653, 759, 760, 831, 509, 630, 510, 631, 632, 511, 633, 512, 636, 742, 744, 743, 823, 635, 513, 637, 638, 745, 824, 872, 825, 514, 639, 515, 640, 516, 642, 746, 747, 641, 517, 643, 748, 518, 519, 520, 521, 644, 749, 189, 150, 237, 151, 256, 317, 234, 404, 154, 305, 405, 531, 406, 532, 152, 318, 408, 319, 410, 535, 648, 534, 533, 411, 391, 481, 610, 727, 817, 863, 864, 611, 728, 729, 730, 818, 731, 412, 537, 320, 413, 538, 652, 756, 757, 758, 321, 415, 322, 416, 323, 324, 325, 326, 327, 15, 522, 645, 523, 524, 315, 403, 530, 307, 308, 392, 482, 612, 483, 613, 484, 485, 525, 646, 750, 826, 827, 526, 647, 751, 828, 829, 752, 528, 399, 578, 683, 782, 787, 785, 805, 806, 804, 704, 846, 847, 686, 783, 784, 786, 710, 684, 788, 789, 711, 714, 685, 687, 790, 791, 848, 879, 849, 792, 373, 454, 455, 456, 580, 457, 458, 581, 283, 374, 45, 106, 107, 108, 215, 218, 217, 216, 375, 377, 459, 460, 461, 462, 582, 695, 696, 798, 855, 583, 697, 698, 799, 856, 463, 378, 464, 584, 699, 706, 700, 800, 701, 702, 703, 585, 586, 705, 802, 803, 707, 587, 708, 709, 588, 712, 589, 713, 807, 808, 857, 858, 809, 859, 810, 811, 860, 880, 590, 284, 104, 46, 109, 110, 219, 291, 48, 112, 114, 220, 221, 113, 222, 47, 7, 10, 21, 23, 57, 12, 30, 66, 129, 67, 68, 69, 70, 71, 72, 130, 131, 34, 82, 14, 35, 76, 149, 141, 33, 231, 302, 304, 306, 79, 232, 132, 133, 134, 73, 135, 136, 74, 137, 138, 139, 140, 233, 142, 143, 235, 144, 75, 145, 146, 147, 77, 78, 80, 81, 83, 155, 156, 157, 158, 159, 160, 161, 162, 163, 84, 164, 240, 241, 242, 165, 166, 167, 168, 169, 170, 172, 174, 173, 243, 175, 85, 176, 177, 244, 178, 179, 180, 181, 182, 86, 183, 245, 246, 247, 248, 249, 250, 251, 310, 311, 394, 395, 312, 313, 400, 401, 402, 314, 252, 254, 253, 316, 184, 185, 255, 87, 186, 187, 188, 190, 31, 32, 13, 9, 19, 20, 49]
theorem hN : 1 + (T.flatten.map fun x => x.leads.length + 1).sum = 3586 := by kernel_rfl
theorem hV : visit (fun f => (nth2 28 dflt T f).leads) 3586 [3] 0 [] = L := by kernel_rfl
theorem closure : Tryz.prog.closure 3 = L := closure_table (by decide) hF hT hr hN hV
theorem inPlace : Tryz.prog.inPlace 3 = ["internal/abi.NoEscape", "internal/bytealg.IndexByteString", "internal/bytealg.IndexString", "internal/bytealg.abigen_runtime_cmpstring", "internal/bytealg.MakeNoZero", "slices.overlaps[string]", "slices.overlaps[hallmark/api.Value]", "internal/bytealg.CountString", "slices.overlaps[hallmark/api.Type]", "slices.overlaps[bool]"] := inPlace_table (by decide) hF hT hr closure (by kernel_rfl)
theorem hG : (L.flatMap fun g => (nth2 28 dflt T g).globs).eraseDups = [0, 1, 3, 2, 4, 5, 6, 9, 7, 8] := by kernel_rfl
theorem hS : (L.filterMap fun g => (nth2 28 dflt T g).reads) = ["internal/bytealg.MaxLen"] := by kernel_rfl
theorem varsNamed : Tryz.prog.varsNamed 3 = ["unicode/utf8.first", "unicode/utf8.acceptRanges", "internal/bytealg.MaxLen", "hallmark/syntax.bindings", "internal/strconv.uint64pow10", "math/bits.deBruijn32tab", "math/bits.deBruijn64tab", "hallmark/narrow.facing", "strconv.ErrSyntax", "strconv.ErrRange"] := named_table (by decide) hF hT hr closure hG hS (by kernel_rfl)
theorem mem17 : 17 ∈ L := by decide +kernel
noncomputable def body17 : Code := match Tryz.f17.body with | some x => x | none => .ret
theorem unfollowed : Tryz.prog.unfollowed 3 = true := unfollowed_at closure mem17 Tryz.func17 (b := body17) (by kernel_rfl) (by kernel_rfl)
theorem recurses : Tryz.prog.recurses 3 = true := recurses_of unfollowed
noncomputable def look40 : Code := match Tryz.f40.body with | some x => x | none => .ret
theorem looks : Tryz.prog.looks [] = true := looks_of Tryz.func40 (b := look40) (by kernel_rfl) (by kernel_rfl)
end Go.Proofs.ClF
/- No function starts a goroutine. Printed by a program. -/
namespace Go.Proofs.ClF
open Go Go.Tab
set_option maxRecDepth 100000
theorem go0 : fl0.any Func.goes = false := by kernel_rfl
theorem go1 : fl1.any Func.goes = false := by kernel_rfl
theorem go2 : fl2.any Func.goes = false := by kernel_rfl
theorem go3 : fl3.any Func.goes = false := by kernel_rfl
theorem go4 : fl4.any Func.goes = false := by kernel_rfl
theorem go5 : fl5.any Func.goes = false := by kernel_rfl
theorem go6 : fl6.any Func.goes = false := by kernel_rfl
theorem go7 : fl7.any Func.goes = false := by kernel_rfl
theorem go8 : fl8.any Func.goes = false := by kernel_rfl
theorem go9 : fl9.any Func.goes = false := by kernel_rfl
theorem go10 : fl10.any Func.goes = false := by kernel_rfl
theorem go11 : fl11.any Func.goes = false := by kernel_rfl
theorem go12 : fl12.any Func.goes = false := by kernel_rfl
theorem go13 : fl13.any Func.goes = false := by kernel_rfl
theorem go14 : fl14.any Func.goes = false := by kernel_rfl
theorem go15 : fl15.any Func.goes = false := by kernel_rfl
theorem go16 : fl16.any Func.goes = false := by kernel_rfl
theorem go17 : fl17.any Func.goes = false := by kernel_rfl
theorem go18 : fl18.any Func.goes = false := by kernel_rfl
theorem go19 : fl19.any Func.goes = false := by kernel_rfl
theorem go20 : fl20.any Func.goes = false := by kernel_rfl
theorem go21 : fl21.any Func.goes = false := by kernel_rfl
theorem go22 : fl22.any Func.goes = false := by kernel_rfl
theorem go23 : fl23.any Func.goes = false := by kernel_rfl
theorem go24 : fl24.any Func.goes = false := by kernel_rfl
theorem go25 : fl25.any Func.goes = false := by kernel_rfl
theorem go26 : fl26.any Func.goes = false := by kernel_rfl
theorem go27 : fl27.any Func.goes = false := by kernel_rfl
theorem go28 : fl28.any Func.goes = false := by kernel_rfl
theorem go29 : fl29.any Func.goes = false := by kernel_rfl
theorem go30 : fl30.any Func.goes = false := by kernel_rfl
theorem go31 : fl31.any Func.goes = false := by kernel_rfl
theorem go32 : fl32.any Func.goes = false := by kernel_rfl
theorem go33 : fl33.any Func.goes = false := by kernel_rfl
theorem go34 : fl34.any Func.goes = false := by kernel_rfl
theorem noGo : Tryz.prog.funcs.any Func.goes = false := by
  rw [← Array.any_toList, hF]
  simp only [FL, List.flatten_cons, List.flatten_nil, List.any_append, List.any_nil, Bool.or_false, go0, go1, go2, go3, go4, go5, go6, go7, go8, go9, go10, go11, go12, go13, go14, go15, go16, go17, go18, go19, go20, go21, go22, go23, go24, go25, go26, go27, go28, go29, go30, go31, go32, go33, go34]
end Go.Proofs.ClF
