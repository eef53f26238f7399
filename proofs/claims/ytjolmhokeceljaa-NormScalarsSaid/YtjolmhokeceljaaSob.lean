/-
  The tables of package api as plain lists (printed by gen_tab.py out of the program's text): what they are for the program is proved elsewhere.
  The pure model: what the functions of the packages ucd, hangul, decomp, order, compose, norm, fold and prep compute, over lists of integers; no program in sight.
  Plain laws of the stable sort by classes: which list is sorted and keeps each class's numbers in their order, there is one alone.
  Plain laws of the merge by exchange of blocks: what the three cases of 'symMerge' leave is the stable sort.
  Plain laws of the stable sort by blocks: each block of b numbers sorted, two blocks merged to one.
  The plain law of case folding: what is folded stays, and lists are folded one behind the other.
  Plain laws of composing: what two numbers make is of class 0, and so is the first of them; the syllables.
  Plain laws of the canonical order: what is put in order; lists that differ by exchanges of neighbouring numbers of unlike classes, neither of them 0; in each such family one list alone is in order.
-/
namespace Go.Proofs.Ytjolmhokeceljaa.Sob

def classT : List (Int × Int × Int) := [(768, 788, 230), (789, 789, 232), (790, 793, 220), (795, 795, 216), (796, 800, 220), (801, 802, 202),
  (803, 806, 220), (807, 808, 202), (809, 819, 220), (820, 824, 1), (825, 828, 220), (829, 836, 230),
  (837, 837, 240), (838, 838, 230), (839, 841, 220), (1456, 1456, 10), (1457, 1457, 11), (1460, 1460, 14),
  (1468, 1468, 21), (1473, 1473, 24), (1474, 1474, 25), (2364, 2364, 7), (2381, 2381, 9), (8400, 8401, 230),
  (12441, 12442, 8), (65056, 65059, 230)]

def assignedT : List (Int × Int × Int) := [(0, 544, 1), (546, 563, 1), (592, 685, 1), (688, 750, 1), (768, 847, 1), (864, 879, 1),
  (884, 885, 1), (890, 890, 1), (894, 894, 1), (900, 906, 1), (908, 908, 1), (910, 929, 1),
  (931, 974, 1), (976, 1014, 1), (1024, 1158, 1), (1160, 1230, 1), (1425, 1441, 1), (1443, 1465, 1),
  (1467, 1476, 1), (1488, 1514, 1), (1757, 1757, 1), (1807, 1807, 1), (2305, 2307, 1), (2309, 2361, 1),
  (2364, 2381, 1), (2392, 2416, 1), (4352, 4441, 1), (4447, 4514, 1), (4520, 4601, 1), (5760, 5788, 1),
  (6144, 6158, 1), (7680, 7835, 1), (7840, 7929, 1), (8175, 8175, 1), (8192, 8274, 1), (8287, 8291, 1),
  (8298, 8305, 1), (8400, 8426, 1), (8448, 8506, 1), (8531, 8579, 1), (9312, 9470, 1), (12288, 12351, 1),
  (12353, 12438, 1), (12441, 12543, 1), (19968, 40869, 1), (44032, 55203, 1), (57344, 63743, 1), (64256, 64262, 1),
  (64285, 64310, 1), (65024, 65039, 1), (65056, 65059, 1), (65279, 65279, 1), (65281, 65470, 1), (65529, 65533, 1),
  (66304, 66334, 1), (119155, 119162, 1), (917505, 917505, 1), (917536, 917631, 1), (983040, 1048573, 1), (1048576, 1114109, 1)]

def nothingT : List (Int × Int × Int) := [(0, 8, 1), (14, 31, 1), (127, 132, 1), (134, 159, 1), (173, 173, 1), (847, 847, 1),
  (1757, 1757, 1), (1807, 1807, 1), (6150, 6150, 1), (6155, 6158, 1), (8203, 8207, 1), (8234, 8238, 1),
  (8288, 8291, 1), (8298, 8303, 1), (65024, 65039, 1), (65279, 65279, 1), (65529, 65532, 1), (119155, 119162, 1),
  (917505, 917505, 1), (917536, 917631, 1)]

def spacesT : List (Int × Int × Int) := [(9, 13, 1), (133, 133, 1), (160, 160, 1), (5760, 5760, 1), (8192, 8202, 1), (8232, 8233, 1),
  (8239, 8239, 1), (8287, 8287, 1), (12288, 12288, 1)]

def prohibT : List (Int × Int × Int) := [(832, 833, 1), (57344, 63743, 1), (65533, 65533, 1), (983040, 1048573, 1), (1048576, 1114109, 1)]

def canonT : List (Int × Int × Int) := [(832, 768, 0), (833, 769, 0), (835, 787, 0), (836, 776, 769), (884, 697, 0), (894, 59, 0),
  (903, 183, 0), (2392, 2325, 2364), (2393, 2326, 2364), (8175, 96, 0), (8192, 8194, 0), (8193, 8195, 0),
  (8486, 937, 0), (8490, 75, 0), (8491, 197, 0), (12364, 12363, 12441), (12366, 12365, 12441), (12400, 12399, 12441),
  (12401, 12399, 12442), (12460, 12459, 12441), (12496, 12495, 12441), (12497, 12495, 12442), (64285, 1497, 1460), (64298, 1513, 1473),
  (64299, 1513, 1474), (192, 65, 768), (200, 69, 768), (204, 73, 768), (210, 79, 768), (217, 85, 768),
  (504, 78, 768), (7808, 87, 768), (7922, 89, 768), (224, 97, 768), (232, 101, 768), (236, 105, 768),
  (242, 111, 768), (249, 117, 768), (505, 110, 768), (7809, 119, 768), (7923, 121, 768), (1024, 1045, 768),
  (1037, 1048, 768), (1104, 1077, 768), (1117, 1080, 768), (193, 65, 769), (201, 69, 769), (205, 73, 769),
  (211, 79, 769), (218, 85, 769), (221, 89, 769), (262, 67, 769), (313, 76, 769), (323, 78, 769),
  (340, 82, 769), (346, 83, 769), (377, 90, 769), (225, 97, 769), (233, 101, 769), (237, 105, 769),
  (243, 111, 769), (250, 117, 769), (253, 121, 769), (263, 99, 769), (314, 108, 769), (324, 110, 769),
  (341, 114, 769), (347, 115, 769), (378, 122, 769), (902, 913, 769), (904, 917, 769), (905, 919, 769),
  (906, 921, 769), (908, 927, 769), (910, 933, 769), (911, 937, 769), (940, 945, 769), (941, 949, 769),
  (942, 951, 769), (943, 953, 769), (972, 959, 769), (973, 965, 769), (974, 969, 769), (1027, 1043, 769),
  (1036, 1050, 769), (1107, 1075, 769), (1116, 1082, 769), (194, 65, 770), (202, 69, 770), (206, 73, 770),
  (212, 79, 770), (219, 85, 770), (264, 67, 770), (284, 71, 770), (292, 72, 770), (308, 74, 770),
  (348, 83, 770), (372, 87, 770), (374, 89, 770), (226, 97, 770), (234, 101, 770), (238, 105, 770),
  (244, 111, 770), (251, 117, 770), (265, 99, 770), (285, 103, 770), (293, 104, 770), (309, 106, 770),
  (349, 115, 770), (373, 119, 770), (375, 121, 770), (195, 65, 771), (209, 78, 771), (213, 79, 771),
  (296, 73, 771), (360, 85, 771), (227, 97, 771), (241, 110, 771), (245, 111, 771), (297, 105, 771),
  (361, 117, 771), (256, 65, 772), (274, 69, 772), (298, 73, 772), (332, 79, 772), (362, 85, 772),
  (257, 97, 772), (275, 101, 772), (299, 105, 772), (333, 111, 772), (363, 117, 772), (258, 65, 774),
  (276, 69, 774), (286, 71, 774), (300, 73, 774), (334, 79, 774), (364, 85, 774), (259, 97, 774),
  (277, 101, 774), (287, 103, 774), (301, 105, 774), (335, 111, 774), (365, 117, 774), (1049, 1048, 774),
  (1038, 1059, 774), (1081, 1080, 774), (1118, 1091, 774), (266, 67, 775), (278, 69, 775), (288, 71, 775),
  (304, 73, 775), (379, 90, 775), (267, 99, 775), (279, 101, 775), (289, 103, 775), (380, 122, 775),
  (196, 65, 776), (203, 69, 776), (207, 73, 776), (214, 79, 776), (220, 85, 776), (376, 89, 776),
  (228, 97, 776), (235, 101, 776), (239, 105, 776), (246, 111, 776), (252, 117, 776), (255, 121, 776),
  (938, 921, 776), (939, 933, 776), (970, 953, 776), (971, 965, 776), (1025, 1045, 776), (1031, 1030, 776),
  (1105, 1077, 776), (1111, 1110, 776), (197, 65, 778), (366, 85, 778), (229, 97, 778), (367, 117, 778),
  (336, 79, 779), (368, 85, 779), (337, 111, 779), (369, 117, 779), (268, 67, 780), (270, 68, 780),
  (282, 69, 780), (327, 78, 780), (344, 82, 780), (352, 83, 780), (356, 84, 780), (381, 90, 780),
  (269, 99, 780), (271, 100, 780), (283, 101, 780), (328, 110, 780), (345, 114, 780), (353, 115, 780),
  (357, 116, 780), (382, 122, 780), (7840, 65, 803), (7864, 69, 803), (7882, 73, 803), (7884, 79, 803),
  (7908, 85, 803), (7841, 97, 803), (7865, 101, 803), (7883, 105, 803), (7885, 111, 803), (7909, 117, 803),
  (199, 67, 807), (290, 71, 807), (310, 75, 807), (315, 76, 807), (325, 78, 807), (342, 82, 807),
  (350, 83, 807), (354, 84, 807), (231, 99, 807), (291, 103, 807), (311, 107, 807), (316, 108, 807),
  (326, 110, 807), (343, 114, 807), (351, 115, 807), (355, 116, 807), (260, 65, 808), (280, 69, 808),
  (302, 73, 808), (370, 85, 808), (261, 97, 808), (281, 101, 808), (303, 105, 808), (371, 117, 808),
  (7844, 194, 769), (7870, 202, 769), (7888, 212, 769), (7845, 226, 769), (7871, 234, 769), (7889, 244, 769),
  (912, 970, 769), (944, 971, 769), (7846, 194, 768), (7872, 202, 768), (7890, 212, 768), (7847, 226, 768),
  (7873, 234, 768), (7891, 244, 768), (7852, 7840, 770), (7878, 7864, 770), (7896, 7884, 770), (7853, 7841, 770),
  (7879, 7865, 770), (7897, 7885, 770)]

def canonLit : List (Int × Int × Int) := [(832, 768, 0), (833, 769, 0), (835, 787, 0), (836, 776, 769), (884, 697, 0), (894, 59, 0),
  (903, 183, 0), (2392, 2325, 2364), (2393, 2326, 2364), (8175, 96, 0), (8192, 8194, 0), (8193, 8195, 0),
  (8486, 937, 0), (8490, 75, 0), (8491, 197, 0), (12364, 12363, 12441), (12366, 12365, 12441), (12400, 12399, 12441),
  (12401, 12399, 12442), (12460, 12459, 12441), (12496, 12495, 12441), (12497, 12495, 12442), (64285, 1497, 1460), (64298, 1513, 1473),
  (64299, 1513, 1474)]

def exclT : List Int := [836, 2392, 2393, 64285, 64298, 64299]

/-- The entries of canonT that compose: of two, not excluded, both classes 0. -/
def compT : List (Int × Int × Int) := [(12364, 12363, 12441), (12366, 12365, 12441), (12400, 12399, 12441), (12401, 12399, 12442), (12460, 12459, 12441), (12496, 12495, 12441),
  (12497, 12495, 12442), (192, 65, 768), (200, 69, 768), (204, 73, 768), (210, 79, 768), (217, 85, 768),
  (504, 78, 768), (7808, 87, 768), (7922, 89, 768), (224, 97, 768), (232, 101, 768), (236, 105, 768),
  (242, 111, 768), (249, 117, 768), (505, 110, 768), (7809, 119, 768), (7923, 121, 768), (1024, 1045, 768),
  (1037, 1048, 768), (1104, 1077, 768), (1117, 1080, 768), (193, 65, 769), (201, 69, 769), (205, 73, 769),
  (211, 79, 769), (218, 85, 769), (221, 89, 769), (262, 67, 769), (313, 76, 769), (323, 78, 769),
  (340, 82, 769), (346, 83, 769), (377, 90, 769), (225, 97, 769), (233, 101, 769), (237, 105, 769),
  (243, 111, 769), (250, 117, 769), (253, 121, 769), (263, 99, 769), (314, 108, 769), (324, 110, 769),
  (341, 114, 769), (347, 115, 769), (378, 122, 769), (902, 913, 769), (904, 917, 769), (905, 919, 769),
  (906, 921, 769), (908, 927, 769), (910, 933, 769), (911, 937, 769), (940, 945, 769), (941, 949, 769),
  (942, 951, 769), (943, 953, 769), (972, 959, 769), (973, 965, 769), (974, 969, 769), (1027, 1043, 769),
  (1036, 1050, 769), (1107, 1075, 769), (1116, 1082, 769), (194, 65, 770), (202, 69, 770), (206, 73, 770),
  (212, 79, 770), (219, 85, 770), (264, 67, 770), (284, 71, 770), (292, 72, 770), (308, 74, 770),
  (348, 83, 770), (372, 87, 770), (374, 89, 770), (226, 97, 770), (234, 101, 770), (238, 105, 770),
  (244, 111, 770), (251, 117, 770), (265, 99, 770), (285, 103, 770), (293, 104, 770), (309, 106, 770),
  (349, 115, 770), (373, 119, 770), (375, 121, 770), (195, 65, 771), (209, 78, 771), (213, 79, 771),
  (296, 73, 771), (360, 85, 771), (227, 97, 771), (241, 110, 771), (245, 111, 771), (297, 105, 771),
  (361, 117, 771), (256, 65, 772), (274, 69, 772), (298, 73, 772), (332, 79, 772), (362, 85, 772),
  (257, 97, 772), (275, 101, 772), (299, 105, 772), (333, 111, 772), (363, 117, 772), (258, 65, 774),
  (276, 69, 774), (286, 71, 774), (300, 73, 774), (334, 79, 774), (364, 85, 774), (259, 97, 774),
  (277, 101, 774), (287, 103, 774), (301, 105, 774), (335, 111, 774), (365, 117, 774), (1049, 1048, 774),
  (1038, 1059, 774), (1081, 1080, 774), (1118, 1091, 774), (266, 67, 775), (278, 69, 775), (288, 71, 775),
  (304, 73, 775), (379, 90, 775), (267, 99, 775), (279, 101, 775), (289, 103, 775), (380, 122, 775),
  (196, 65, 776), (203, 69, 776), (207, 73, 776), (214, 79, 776), (220, 85, 776), (376, 89, 776),
  (228, 97, 776), (235, 101, 776), (239, 105, 776), (246, 111, 776), (252, 117, 776), (255, 121, 776),
  (938, 921, 776), (939, 933, 776), (970, 953, 776), (971, 965, 776), (1025, 1045, 776), (1031, 1030, 776),
  (1105, 1077, 776), (1111, 1110, 776), (197, 65, 778), (366, 85, 778), (229, 97, 778), (367, 117, 778),
  (336, 79, 779), (368, 85, 779), (337, 111, 779), (369, 117, 779), (268, 67, 780), (270, 68, 780),
  (282, 69, 780), (327, 78, 780), (344, 82, 780), (352, 83, 780), (356, 84, 780), (381, 90, 780),
  (269, 99, 780), (271, 100, 780), (283, 101, 780), (328, 110, 780), (345, 114, 780), (353, 115, 780),
  (357, 116, 780), (382, 122, 780), (7840, 65, 803), (7864, 69, 803), (7882, 73, 803), (7884, 79, 803),
  (7908, 85, 803), (7841, 97, 803), (7865, 101, 803), (7883, 105, 803), (7885, 111, 803), (7909, 117, 803),
  (199, 67, 807), (290, 71, 807), (310, 75, 807), (315, 76, 807), (325, 78, 807), (342, 82, 807),
  (350, 83, 807), (354, 84, 807), (231, 99, 807), (291, 103, 807), (311, 107, 807), (316, 108, 807),
  (326, 110, 807), (343, 114, 807), (351, 115, 807), (355, 116, 807), (260, 65, 808), (280, 69, 808),
  (302, 73, 808), (370, 85, 808), (261, 97, 808), (281, 101, 808), (303, 105, 808), (371, 117, 808),
  (7844, 194, 769), (7870, 202, 769), (7888, 212, 769), (7845, 226, 769), (7871, 234, 769), (7889, 244, 769),
  (912, 970, 769), (944, 971, 769), (7846, 194, 768), (7872, 202, 768), (7890, 212, 768), (7847, 226, 768),
  (7873, 234, 768), (7891, 244, 768), (7852, 7840, 770), (7878, 7864, 770), (7896, 7884, 770), (7853, 7841, 770),
  (7879, 7865, 770), (7897, 7885, 770)]

def compatLit : List (Int × List Int) := [(160, [32]), (168, [32, 776]), (170, [97]), (175, [32, 772]), (178, [50]), (179, [51]),
  (180, [32, 769]), (181, [956]), (184, [32, 807]), (185, [49]), (186, [111]), (188, [49, 8260, 52]),
  (189, [49, 8260, 50]), (190, [51, 8260, 52]), (306, [73, 74]), (307, [105, 106]), (319, [76, 183]), (320, [108, 183]),
  (329, [700, 110]), (383, [115]), (728, [32, 774]), (729, [32, 775]), (730, [32, 778]), (731, [32, 808]),
  (733, [32, 779]), (890, [32, 837]), (900, [32, 769]), (901, [168, 769]), (8194, [32]), (8195, [32]),
  (8209, [8208]), (8228, [46]), (8229, [46, 46]), (8230, [46, 46, 46]), (8304, [48]), (8482, [84, 77]),
  (8544, [73]), (8545, [73, 73]), (8548, [86]), (8560, [105]), (8561, [105, 105]), (8564, [118]),
  (12288, [32]), (64256, [102, 102]), (64257, [102, 105]), (64258, [102, 108]), (64259, [102, 102, 105]), (64261, [383, 116]),
  (64262, [115, 116]), (65438, [12441]), (65439, [12442]), (65398, [12459])]

def foldLit : List (Int × List Int) := [(181, [956]), (223, [115, 115]), (304, [105, 775]), (329, [700, 110]), (383, [115]), (8482, [116, 109]),
  (8486, [969]), (8490, [107]), (8491, [229]), (8544, [8560]), (8545, [8561]), (8548, [8564]),
  (962, [963]), (64256, [102, 102]), (64257, [102, 105]), (64258, [102, 108]), (64259, [102, 102, 105]), (64261, [115, 116]),
  (64262, [115, 116])]

def compatT : List (Int × List Int) := [(160, [32]), (168, [32, 776]), (170, [97]), (175, [32, 772]), (178, [50]), (179, [51]),
  (180, [32, 769]), (181, [956]), (184, [32, 807]), (185, [49]), (186, [111]), (188, [49, 8260, 52]),
  (189, [49, 8260, 50]), (190, [51, 8260, 52]), (306, [73, 74]), (307, [105, 106]), (319, [76, 183]), (320, [108, 183]),
  (329, [700, 110]), (383, [115]), (728, [32, 774]), (729, [32, 775]), (730, [32, 778]), (731, [32, 808]),
  (733, [32, 779]), (890, [32, 837]), (900, [32, 769]), (901, [168, 769]), (8194, [32]), (8195, [32]),
  (8209, [8208]), (8228, [46]), (8229, [46, 46]), (8230, [46, 46, 46]), (8304, [48]), (8482, [84, 77]),
  (8544, [73]), (8545, [73, 73]), (8548, [86]), (8560, [105]), (8561, [105, 105]), (8564, [118]),
  (12288, [32]), (64256, [102, 102]), (64257, [102, 105]), (64258, [102, 108]), (64259, [102, 102, 105]), (64261, [383, 116]),
  (64262, [115, 116]), (65438, [12441]), (65439, [12442]), (65398, [12459]), (65281, [33]), (65282, [34]),
  (65283, [35]), (65284, [36]), (65285, [37]), (65286, [38]), (65287, [39]), (65288, [40]),
  (65289, [41]), (65290, [42]), (65291, [43]), (65292, [44]), (65293, [45]), (65294, [46]),
  (65295, [47]), (65296, [48]), (65297, [49]), (65298, [50]), (65299, [51]), (65300, [52]),
  (65301, [53]), (65302, [54]), (65303, [55]), (65304, [56]), (65305, [57]), (65306, [58]),
  (65307, [59]), (65308, [60]), (65309, [61]), (65310, [62]), (65311, [63]), (65312, [64]),
  (65313, [65]), (65314, [66]), (65315, [67]), (65316, [68]), (65317, [69]), (65318, [70]),
  (65319, [71]), (65320, [72]), (65321, [73]), (65322, [74]), (65323, [75]), (65324, [76]),
  (65325, [77]), (65326, [78]), (65327, [79]), (65328, [80]), (65329, [81]), (65330, [82]),
  (65331, [83]), (65332, [84]), (65333, [85]), (65334, [86]), (65335, [87]), (65336, [88]),
  (65337, [89]), (65338, [90]), (65339, [91]), (65340, [92]), (65341, [93]), (65342, [94]),
  (65343, [95]), (65344, [96]), (65345, [97]), (65346, [98]), (65347, [99]), (65348, [100]),
  (65349, [101]), (65350, [102]), (65351, [103]), (65352, [104]), (65353, [105]), (65354, [106]),
  (65355, [107]), (65356, [108]), (65357, [109]), (65358, [110]), (65359, [111]), (65360, [112]),
  (65361, [113]), (65362, [114]), (65363, [115]), (65364, [116]), (65365, [117]), (65366, [118]),
  (65367, [119]), (65368, [120]), (65369, [121]), (65370, [122]), (65371, [123]), (65372, [124]),
  (65373, [125]), (65374, [126]), (9312, [49]), (9313, [50]), (9314, [51]), (9315, [52]),
  (9316, [53]), (9317, [54]), (9318, [55]), (9319, [56]), (9320, [57])]

def foldT : List (Int × List Int) := [(181, [956]), (223, [115, 115]), (304, [105, 775]), (329, [700, 110]), (383, [115]), (8482, [116, 109]),
  (8486, [969]), (8490, [107]), (8491, [229]), (8544, [8560]), (8545, [8561]), (8548, [8564]),
  (962, [963]), (64256, [102, 102]), (64257, [102, 105]), (64258, [102, 108]), (64259, [102, 102, 105]), (64261, [115, 116]),
  (64262, [115, 116]), (65, [97]), (66, [98]), (67, [99]), (68, [100]), (69, [101]),
  (70, [102]), (71, [103]), (72, [104]), (73, [105]), (74, [106]), (75, [107]),
  (76, [108]), (77, [109]), (78, [110]), (79, [111]), (80, [112]), (81, [113]),
  (82, [114]), (83, [115]), (84, [116]), (85, [117]), (86, [118]), (87, [119]),
  (88, [120]), (89, [121]), (90, [122]), (192, [224]), (193, [225]), (194, [226]),
  (195, [227]), (196, [228]), (197, [229]), (198, [230]), (199, [231]), (200, [232]),
  (201, [233]), (202, [234]), (203, [235]), (204, [236]), (205, [237]), (206, [238]),
  (207, [239]), (208, [240]), (209, [241]), (210, [242]), (211, [243]), (212, [244]),
  (213, [245]), (214, [246]), (216, [248]), (217, [249]), (218, [250]), (219, [251]),
  (220, [252]), (221, [253]), (222, [254]), (256, [257]), (258, [259]), (260, [261]),
  (262, [263]), (264, [265]), (266, [267]), (268, [269]), (270, [271]), (272, [273]),
  (274, [275]), (276, [277]), (278, [279]), (280, [281]), (282, [283]), (284, [285]),
  (286, [287]), (288, [289]), (290, [291]), (292, [293]), (294, [295]), (296, [297]),
  (298, [299]), (300, [301]), (302, [303]), (306, [307]), (308, [309]), (310, [311]),
  (313, [314]), (315, [316]), (317, [318]), (319, [320]), (321, [322]), (323, [324]),
  (325, [326]), (327, [328]), (330, [331]), (332, [333]), (334, [335]), (336, [337]),
  (338, [339]), (340, [341]), (342, [343]), (344, [345]), (346, [347]), (348, [349]),
  (350, [351]), (352, [353]), (354, [355]), (356, [357]), (358, [359]), (360, [361]),
  (362, [363]), (364, [365]), (366, [367]), (368, [369]), (370, [371]), (372, [373]),
  (374, [375]), (376, [255]), (377, [378]), (379, [380]), (381, [382]), (504, [505]),
  (7808, [7809]), (7922, [7923]), (7840, [7841]), (7864, [7865]), (7882, [7883]), (7884, [7885]),
  (7908, [7909]), (7844, [7845]), (7870, [7871]), (7888, [7889]), (7846, [7847]), (7872, [7873]),
  (7890, [7891]), (7852, [7853]), (7878, [7879]), (7896, [7897]), (913, [945]), (914, [946]),
  (915, [947]), (916, [948]), (917, [949]), (918, [950]), (919, [951]), (920, [952]),
  (921, [953]), (922, [954]), (923, [955]), (924, [956]), (925, [957]), (926, [958]),
  (927, [959]), (928, [960]), (929, [961]), (931, [963]), (932, [964]), (933, [965]),
  (934, [966]), (935, [967]), (936, [968]), (937, [969]), (902, [940]), (904, [941]),
  (905, [942]), (906, [943]), (908, [972]), (910, [973]), (911, [974]), (938, [970]),
  (939, [971]), (1040, [1072]), (1041, [1073]), (1042, [1074]), (1043, [1075]), (1044, [1076]),
  (1045, [1077]), (1046, [1078]), (1047, [1079]), (1048, [1080]), (1049, [1081]), (1050, [1082]),
  (1051, [1083]), (1052, [1084]), (1053, [1085]), (1054, [1086]), (1055, [1087]), (1056, [1088]),
  (1057, [1089]), (1058, [1090]), (1059, [1091]), (1060, [1092]), (1061, [1093]), (1062, [1094]),
  (1063, [1095]), (1064, [1096]), (1065, [1097]), (1066, [1098]), (1067, [1099]), (1068, [1100]),
  (1069, [1101]), (1070, [1102]), (1071, [1103]), (1024, [1104]), (1025, [1105]), (1026, [1106]),
  (1027, [1107]), (1028, [1108]), (1029, [1109]), (1030, [1110]), (1031, [1111]), (1032, [1112]),
  (1033, [1113]), (1034, [1114]), (1035, [1115]), (1036, [1116]), (1037, [1117]), (1038, [1118]),
  (1039, [1119]), (65313, [65345]), (65314, [65346]), (65315, [65347]), (65316, [65348]), (65317, [65349]),
  (65318, [65350]), (65319, [65351]), (65320, [65352]), (65321, [65353]), (65322, [65354]), (65323, [65355]),
  (65324, [65356]), (65325, [65357]), (65326, [65358]), (65327, [65359]), (65328, [65360]), (65329, [65361]),
  (65330, [65362]), (65331, [65363]), (65332, [65364]), (65333, [65365]), (65334, [65366]), (65335, [65367]),
  (65336, [65368]), (65337, [65369]), (65338, [65370])]

end Go.Proofs.Ytjolmhokeceljaa.Sob

namespace Go.Proofs.Ytjolmhokeceljaa.Sob

/-- The value of the first range that has c; 0 if there is none. -/
def lookR : List (Int × Int × Int) → Int → Int
  | [], _ => 0
  | (f, t, v) :: r, c => if f ≤ c ∧ c ≤ t then v else lookR r c
/-- What the first map from c maps it to. -/
def lookM : List (Int × List Int) → Int → List Int
  | [], _ => []
  | (f, l) :: r, c => if f = c then l else lookM r c
/-- The decomposition of the first entry of c. -/
def lookC : List (Int × Int × Int) → Int → List Int
  | [], _ => []
  | (f, a, b) :: r, c => if f = c then (if b = 0 then [a] else [a, b]) else lookC r c

def scalar (c : Int) : Bool := decide (0 ≤ c ∧ c ≤ 1114111 ∧ ¬ (55296 ≤ c ∧ c ≤ 57343))
def cls (c : Int) : Int := if scalar c then lookR classT c else 0
def assigned (c : Int) : Bool := scalar c && decide (0 < lookR assignedT c)
def nothing (c : Int) : Bool := scalar c && decide (0 < lookR nothingT c)
def space (c : Int) : Bool := scalar c && decide (0 < lookR spacesT c)
def prohibited (c : Int) : Bool := scalar c && decide (0 < lookR prohibT c)
def canon (c : Int) : List Int := lookC canonT c
def compat (c : Int) : List Int := lookM compatT c
def fold (c : Int) : List Int := lookM foldT c
def pairOf (a b : Int) : List (Int × Int × Int) → Option Int
  | [] => none
  | (c, x, y) :: r => if x = a ∧ y = b then some c else pairOf a b r
/-- What two make, out of the entries that compose. -/
def pair (a b : Int) : Option Int := pairOf a b compT

/-! ### hangul -/
def split (c : Int) : List Int :=
  if 44032 ≤ c ∧ c < 55204 then
    [4352 + (c - 44032) / 588, 4449 + (c - 44032) / 28 % 21] ++ (if (c - 44032) % 28 > 0 then [4519 + (c - 44032) % 28] else [])
  else []
def join (a b : Int) : Option Int :=
  if (4352 ≤ a ∧ a < 4371) ∧ (4449 ≤ b ∧ b < 4470) then some (44032 + ((a - 4352) * 21 + b - 4449) * 28)
  else if (44032 ≤ a ∧ a < 55204) ∧ (a - 44032) % 28 = 0 ∧ (4520 ≤ b ∧ b < 4547) then some (a + b - 4519)
  else none

/-! ### decomp -/
def next (k : Bool) (c : Int) : List Int :=
  match split c with
  | [] => match canon c with
    | [] => if k then compat c else []
    | l => l
  | l => l
def decN (k : Bool) : Nat → Int → List Int
  | 0, c => [c]
  | n + 1, c => match next k c with
    | [] => [c]
    | l => l.flatMap (decN k n)
/-- The full decomposition. -/
def dec (k : Bool) (c : Int) : List Int := decN k 3 c
def decAll (k : Bool) (s : List Int) : List Int := s.flatMap (dec k)

/-! ### order -/
/-- No number of a class other than 0 stands behind one of a greater class. -/
def inOrder : List Int → Bool
  | a :: b :: r => (decide (cls b = 0) || decide (cls a ≤ cls b)) && inOrder (b :: r)
  | _ => true

/-! ### compose -/
def two (a b : Int) : Option Int := match join a b with
  | some c => some c
  | none => pair a b
/-- What lies ahead of the last number of class 0; that number; what lies behind it. -/
abbrev CSt := List Int × Option Int × List Int
def crow (t : CSt) : List Int := t.1 ++ (t.2.1.toList ++ t.2.2)
/-- The marks behind the letter block a number of class k. -/
def blocked (m : List Int) (k : Int) : Bool := match m.getLast? with
  | none => false
  | some b => decide (cls b = 0) || decide (k ≤ cls b)
def cpush (t : CSt) (c : Int) : CSt := if cls c = 0 then (crow t, some c, []) else (t.1, t.2.1, t.2.2 ++ [c])
def cstep (t : CSt) (c : Int) : CSt := match t.2.1 with
  | none => cpush t c
  | some a => if blocked t.2.2 (cls c) then cpush t c else match two a c with
    | some n => (t.1, some n, t.2.2)
    | none => cpush t c
def compose (s : List Int) : List Int := crow (s.foldl cstep ([], none, []))

/-! ### fold -/
def fold1 (c : Int) : List Int := match fold c with
  | [] => [c]
  | l => l
def foldAll (s : List Int) : List Int := s.flatMap fold1

end Go.Proofs.Ytjolmhokeceljaa.Sob

namespace Go.Proofs.Ytjolmhokeceljaa.Sob

/-- No number stands behind one of a greater class. -/
def Ord (l : List Int) : Prop := l.Pairwise (fun a b => cls a ≤ cls b)
/-- Each class has the same numbers, in the same order. -/
def Sim (l m : List Int) : Prop := ∀ c : Int, l.filter (fun x => decide (cls x = c)) = m.filter (fun x => decide (cls x = c))
theorem Sim.refl (l : List Int) : Sim l l := fun _ => rfl
theorem Sim.symm {l m : List Int} (h : Sim l m) : Sim m l := fun c => (h c).symm
theorem Sim.trans {l m n : List Int} (h : Sim l m) (k : Sim m n) : Sim l n := fun c => (h c).trans (k c)
theorem Sim.append {l m l' m' : List Int} (h : Sim l m) (k : Sim l' m') : Sim (l ++ l') (m ++ m') := fun c => by rw [List.filter_append, List.filter_append, h c, k c]
theorem Sim.cons (x : Int) {l m : List Int} (h : Sim l m) : Sim (x :: l) (x :: m) := Sim.append (Sim.refl [x]) h
theorem Sim.mem {l m : List Int} (h : Sim l m) {x : Int} (hx : x ∈ l) : x ∈ m := by
  have : x ∈ l.filter (fun y => decide (cls y = cls x)) := List.mem_filter.2 ⟨hx, by simp⟩
  rw [h] at this
  exact (List.mem_filter.1 this).1
theorem Sim.swap {x : Int} {l : List Int} (h : ∀ y ∈ l, cls y ≠ cls x) : Sim (x :: l) (l ++ [x]) := fun c => by
  rw [List.filter_append, List.filter_cons]
  by_cases e : cls x = c
  · have : l.filter (fun y => decide (cls y = c)) = [] := by
      rw [List.filter_eq_nil_iff]
      intro y hy
      have := h y hy
      simp only [decide_eq_true_eq]
      omega
    rw [this]
    simp [e]
  · simp [e]
/-- Two blocks whose classes have nothing in common may change places. -/
theorem Sim.blocks {u v : List Int} (h : ∀ x ∈ u, ∀ y ∈ v, cls y ≠ cls x) : Sim (u ++ v) (v ++ u) := fun c => by
  rw [List.filter_append, List.filter_append]
  by_cases hu : u.filter (fun x => decide (cls x = c)) = []
  · rw [hu]; simp
  · obtain ⟨x, hx⟩ := List.exists_mem_of_ne_nil _ hu
    obtain ⟨hxu, hxc⟩ := List.mem_filter.1 hx
    have hxc := of_decide_eq_true hxc
    have : v.filter (fun y => decide (cls y = c)) = [] := by
      rw [List.filter_eq_nil_iff]
      intro y hy
      have := h x hxu y hy
      simp only [decide_eq_true_eq]
      omega
    rw [this]; simp
theorem Sim.nil {m : List Int} (h : Sim [] m) : m = [] := by
  cases m with
  | nil => rfl
  | cons y m =>
    have := h (cls y)
    simp at this
theorem Sim.length {l m : List Int} (h : Sim l m) : l.length = m.length := by
  induction l generalizing m with
  | nil => rw [Sim.nil h]
  | cons x l ih =>
    have hx : x ∈ m := Sim.mem h List.mem_cons_self
    -- take the first one of x's class out of m
    have key : ∀ (m : List Int) (c : Int) (x : Int) (r : List Int), m.filter (fun y => decide (cls y = c)) = x :: r → ∃ m1 m2, m = m1 ++ x :: m2 ∧ cls x = c ∧ ∀ y ∈ m1, cls y ≠ c := by
      intro m c x r
      induction m with
      | nil => intro e; simp at e
      | cons y m ih =>
        intro e
        rw [List.filter_cons] at e
        by_cases q : cls y = c
        · rw [if_pos (by simpa using q)] at e
          injection e with e1 e2
          subst e1
          exact ⟨[], m, rfl, q, fun _ h => by cases h⟩
        · rw [if_neg (by simpa using q)] at e
          obtain ⟨m1, m2, rfl, h1, h2⟩ := ih e
          refine ⟨y :: m1, m2, rfl, h1, fun z hz => ?_⟩
          rcases List.mem_cons.1 hz with rfl | hz
          · exact q
          · exact h2 z hz
    have e := h (cls x)
    rw [List.filter_cons, if_pos (by simp)] at e
    obtain ⟨m1, m2, rfl, _, hm⟩ := key m (cls x) x _ e.symm
    have h2 : Sim l (m1 ++ m2) := fun c => by
      have := h c
      rw [List.filter_append] at this ⊢
      rw [List.filter_cons, List.filter_cons] at this
      by_cases q : cls x = c
      · rw [if_pos (by simpa using q), if_pos (by simpa using q)] at this
        have hn : m1.filter (fun y => decide (cls y = c)) = [] := by
          rw [List.filter_eq_nil_iff]
          intro y hy
          have := hm y hy
          simp only [decide_eq_true_eq]
          omega
        rw [hn] at this ⊢
        simpa using this
      · rw [if_neg (by simpa using q), if_neg (by simpa using q)] at this
        exact this
    have := ih h2
    simp only [List.length_append, List.length_cons] at this ⊢
    omega
theorem ord_unique {l m : List Int} (hl : Ord l) (hm : Ord m) (h : Sim l m) : l = m := by
  induction l generalizing m with
  | nil => exact (Sim.nil h).symm
  | cons x l ih =>
    cases m with
    | nil => exact (Sim.nil h.symm)
    | cons y m =>
      obtain ⟨hx, hl'⟩ := List.pairwise_cons.1 hl
      obtain ⟨hy, hm'⟩ := List.pairwise_cons.1 hm
      have h1 : cls x ≤ cls y := by
        rcases List.mem_cons.1 (Sim.mem h.symm (List.mem_cons_self (a := y) (l := m))) with e | e
        · rw [e]; omega
        · exact hx _ e
      have h2 : cls y ≤ cls x := by
        rcases List.mem_cons.1 (Sim.mem h (List.mem_cons_self (a := x) (l := l))) with e | e
        · rw [e]; omega
        · exact hy _ e
      have e := h (cls x)
      rw [List.filter_cons, List.filter_cons, if_pos (by simp), if_pos (by simp; omega)] at e
      injection e with e1 e2
      subst e1
      have : Sim l m := fun c => by
        have := h c
        rw [List.filter_cons, List.filter_cons] at this
        by_cases q : cls x = c
        · rw [if_pos (by simpa using q), if_pos (by simpa using q)] at this
          injection this
        · rw [if_neg (by simpa using q), if_neg (by simpa using q)] at this
          exact this
      rw [ih hl' hm' this]

/-- x ahead of the first one whose class is no less. -/
def ins (x : Int) : List Int → List Int
  | [] => [x]
  | y :: l => if cls x ≤ cls y then x :: y :: l else y :: ins x l
/-- The stable sort. -/
def srt : List Int → List Int
  | [] => []
  | x :: l => ins x (srt l)
theorem ins_sim (x : Int) (l : List Int) : Sim (ins x l) (x :: l) := by
  induction l with
  | nil => exact Sim.refl _
  | cons y l ih =>
    unfold ins
    split
    · exact Sim.refl _
    · refine (Sim.cons y ih).trans ?_
      have : Sim [y, x] [x, y] := Sim.blocks (u := [y]) (v := [x]) (by simp; omega)
      exact Sim.append this (Sim.refl l)
theorem ins_ord (x : Int) (l : List Int) (h : Ord l) : Ord (ins x l) := by
  induction l with
  | nil => exact List.pairwise_cons.2 ⟨fun _ h => (by cases h), List.Pairwise.nil⟩
  | cons y l ih =>
    obtain ⟨hy, hl⟩ := List.pairwise_cons.1 h
    unfold ins
    split
    · refine List.pairwise_cons.2 ⟨fun z hz => ?_, h⟩
      rcases List.mem_cons.1 hz with rfl | hz
      · assumption
      · have := hy z hz; omega
    · refine List.pairwise_cons.2 ⟨fun z hz => ?_, ih hl⟩
      rcases List.mem_cons.1 (Sim.mem (ins_sim x l) hz) with rfl | hz
      · omega
      · exact hy z hz
theorem srt_sim (l : List Int) : Sim (srt l) l := by
  induction l with
  | nil => exact Sim.refl _
  | cons x l ih => exact (ins_sim x (srt l)).trans (Sim.cons x ih)
theorem srt_ord (l : List Int) : Ord (srt l) := by
  induction l with
  | nil => exact List.Pairwise.nil
  | cons x l ih => exact ins_ord x _ ih
theorem srt_len (l : List Int) : (srt l).length = l.length := (srt_sim l).length
theorem srt_of {l m : List Int} (hm : Ord m) (h : Sim m l) : m = srt l := ord_unique hm (srt_ord l) (h.trans (srt_sim l).symm)
theorem srt_congr {l m : List Int} (h : Sim l m) : srt l = srt m := srt_of (srt_ord l) ((srt_sim l).trans h)
theorem srt_id {l : List Int} (h : Ord l) : srt l = l := (srt_of h (Sim.refl l)).symm
theorem srt_mem {l : List Int} {x : Int} : x ∈ srt l ↔ x ∈ l := ⟨fun h => (srt_sim l).mem h, fun h => (srt_sim l).symm.mem h⟩
theorem ord_append {l m : List Int} : Ord (l ++ m) ↔ Ord l ∧ Ord m ∧ ∀ x ∈ l, ∀ y ∈ m, cls x ≤ cls y := List.pairwise_append

/-- One more number: it stands behind all that are no greater. -/
theorem srt_snoc {S l1 l2 : List Int} {x : Int} (h : srt S = l1 ++ l2) (h1 : ∀ y ∈ l1, cls y ≤ cls x) (h2 : ∀ y ∈ l2, cls x < cls y) : l1 ++ x :: l2 = srt (S ++ [x]) := by
  have ho : Ord (l1 ++ l2) := h ▸ srt_ord S
  obtain ⟨o1, o2, o3⟩ := ord_append.1 ho
  refine srt_of ?_ ?_
  · refine ord_append.2 ⟨o1, List.pairwise_cons.2 ⟨fun y hy => by have := h2 y hy; omega, o2⟩, fun y hy z hz => ?_⟩
    rcases List.mem_cons.1 hz with rfl | hz
    · exact h1 y hy
    · exact o3 y hy z hz
  · have e : Sim (x :: l2) (l2 ++ [x]) := Sim.swap (fun y hy => by have := h2 y hy; omega)
    have e2 : Sim (l1 ++ (l2 ++ [x])) (S ++ [x]) := by
      rw [← List.append_assoc, ← h]
      exact Sim.append (srt_sim S) (Sim.refl _)
    exact (Sim.append (Sim.refl l1) e).trans e2

end Go.Proofs.Ytjolmhokeceljaa.Sob

namespace Go.Proofs.Ytjolmhokeceljaa.Sob
set_option linter.unusedVariables false

theorem merge_left {x : Int} {v1 v2 : List Int} (h1 : ∀ y ∈ v1, cls y < cls x) (h2 : ∀ y ∈ v2, cls x ≤ cls y) (hv : Ord (v1 ++ v2)) : v1 ++ x :: v2 = srt ([x] ++ (v1 ++ v2)) := by
  obtain ⟨o1, o2, o3⟩ := ord_append.1 hv
  refine srt_of ?_ ?_
  · refine ord_append.2 ⟨o1, List.pairwise_cons.2 ⟨h2, o2⟩, fun y hy z hz => ?_⟩
    rcases List.mem_cons.1 hz with rfl | hz
    · have := h1 y hy; omega
    · exact o3 y hy z hz
  · have : Sim ([x] ++ v1) (v1 ++ [x]) := Sim.swap (fun y hy => by have := h1 y hy; omega)
    have := (Sim.append this (Sim.refl v2)).symm
    simpa using this
theorem merge_right {y : Int} {u1 u2 : List Int} (h1 : ∀ x ∈ u1, cls x ≤ cls y) (h2 : ∀ x ∈ u2, cls y < cls x) (hu : Ord (u1 ++ u2)) : u1 ++ y :: u2 = srt ((u1 ++ u2) ++ [y]) := by
  refine srt_snoc (S := u1 ++ u2) ?_ h1 h2
  exact srt_id hu
theorem merge_parts {u1 u2 v1 v2 : List Int} (hu : Ord (u1 ++ u2)) (hv : Ord (v1 ++ v2)) (h1 : ∀ x ∈ u1, ∀ y ∈ v2, cls x ≤ cls y) (h2 : ∀ y ∈ v1, ∀ x ∈ u2, cls y < cls x) :
    srt (u1 ++ v1) ++ srt (u2 ++ v2) = srt ((u1 ++ u2) ++ (v1 ++ v2)) := by
  obtain ⟨a1, a2, a3⟩ := ord_append.1 hu
  obtain ⟨b1, b2, b3⟩ := ord_append.1 hv
  refine srt_of ?_ ?_
  · refine ord_append.2 ⟨srt_ord _, srt_ord _, fun x hx y hy => ?_⟩
    rw [srt_mem, List.mem_append] at hx hy
    rcases hx with hx | hx <;> rcases hy with hy | hy
    · exact a3 x hx y hy
    · exact h1 x hx y hy
    · have := h2 x hx y hy; omega
    · exact b3 x hx y hy
  · have e : Sim (v1 ++ u2) (u2 ++ v1) := Sim.blocks (fun x hx y hy => by have := h2 x hx y hy; omega)
    have := Sim.append (Sim.refl u1) (Sim.append e (Sim.refl v2))
    refine (Sim.append (srt_sim _) (srt_sim _)).trans ?_
    simpa using this
theorem ord_get {l : List Int} (h : Ord l) {i j : Nat} (hij : i ≤ j) (hj : j < l.length) : cls (l.getD i 0) ≤ cls (l.getD j 0) := by
  rcases Nat.lt_or_eq_of_le hij with e | e
  · have := List.pairwise_iff_getElem.1 h i j (by omega) hj e
    simpa [List.getD_eq_getElem?_getD, List.getElem?_eq_getElem hj, List.getElem?_eq_getElem (show i < l.length by omega)] using this
  · rw [e]; omega
theorem mem_take_get {l : List Int} {k : Nat} {y : Int} (h : y ∈ l.take k) : ∃ i, i < k ∧ i < l.length ∧ y = l.getD i 0 := by
  obtain ⟨i, hi, e⟩ := List.mem_iff_getElem.1 h
  have hi2 : i < k ∧ i < l.length := by rw [List.length_take] at hi; omega
  refine ⟨i, hi2.1, hi2.2, ?_⟩
  rw [← e, List.getElem_take, List.getD_eq_getElem?_getD, List.getElem?_eq_getElem hi2.2]
  rfl
theorem mem_drop_get {l : List Int} {k : Nat} {y : Int} (h : y ∈ l.drop k) : ∃ i, k ≤ i ∧ i < l.length ∧ y = l.getD i 0 := by
  obtain ⟨i, hi, e⟩ := List.mem_iff_getElem.1 h
  have hi2 : k + i < l.length := by rw [List.length_drop] at hi; omega
  refine ⟨k + i, by omega, hi2, ?_⟩
  rw [← e, List.getElem_drop, List.getD_eq_getElem?_getD, List.getElem?_eq_getElem hi2]
  rfl

theorem get_left {u v : List Int} {i : Nat} (h : i < u.length) : (u ++ v).getD i 0 = u.getD i 0 := by
  rw [List.getD_eq_getElem?_getD, List.getD_eq_getElem?_getD, List.getElem?_append_left h]
theorem get_right {u v : List Int} {i j : Nat} (h : i = u.length + j) : (u ++ v).getD i 0 = v.getD j 0 := by
  rw [List.getD_eq_getElem?_getD, List.getD_eq_getElem?_getD, List.getElem?_append_right (by omega), show i - u.length = j by omega]

/-- Where the blocks to exchange are looked for: a, m, b are places of the two parts' ends; c and its mirror lie in the one and in the other part. -/
structure SymAt (u v : List Int) (a m b mid lo hi : Nat) : Prop where
  hm : m = a + u.length
  hb : b = m + v.length
  hmid : mid = (a + b) / 2
  hc : (mid < m ∧ lo = mid + m - b ∧ hi = mid) ∨ (m ≤ mid ∧ lo = a ∧ hi = m)
namespace SymAt
variable {u v : List Int} {a m b mid lo hi : Nat}
theorem left (h : SymAt u v a m b mid lo hi) {c : Nat} (h1 : lo ≤ c) (h2 : c < hi) (hab : a < m) (hmb : m < b) : a ≤ c ∧ c - a < u.length ∧ (u ++ v).getD (c - a) 0 = u.getD (c - a) 0 := by
  obtain ⟨h3, h4, h5, h6⟩ := h
  have : a ≤ c ∧ c - a < u.length := by omega
  exact ⟨this.1, this.2, get_left this.2⟩
theorem right (h : SymAt u v a m b mid lo hi) {c : Nat} (h1 : lo ≤ c) (h2 : c < hi) (hab : a < m) (hmb : m < b) : m ≤ mid + m - 1 - c ∧ mid + m - 1 - c - m < v.length ∧ (u ++ v).getD (mid + m - 1 - c - a) 0 = v.getD (mid + m - 1 - c - m) 0 := by
  obtain ⟨h3, h4, h5, h6⟩ := h
  have : m ≤ mid + m - 1 - c ∧ mid + m - 1 - c - m < v.length := by omega
  exact ⟨this.1, this.2, get_right (by omega)⟩
theorem low (h : SymAt u v a m b mid lo hi) (hu : Ord u) (hv : Ord v) (hab : a < m) (hmb : m < b) {c : Nat} (h1 : lo ≤ c) (h2 : c < hi) (hd : cls ((u ++ v).getD (c - a) 0) ≤ cls ((u ++ v).getD (mid + m - 1 - c - a) 0))
    {d : Nat} (d1 : lo ≤ d) (d2 : d ≤ c) : cls ((u ++ v).getD (d - a) 0) ≤ cls ((u ++ v).getD (mid + m - 1 - d - a) 0) := by
  obtain ⟨l1, l2, l3⟩ := h.left h1 h2 hab hmb
  obtain ⟨r1, r2, r3⟩ := h.right h1 h2 hab hmb
  obtain ⟨l4, l5, l6⟩ := h.left d1 (by omega) hab hmb
  obtain ⟨r4, r5, r6⟩ := h.right d1 (by omega) hab hmb
  rw [l3, r3] at hd
  rw [l6, r6]
  have e1 := ord_get hu (i := d - a) (j := c - a) (by omega) l2
  have e2 := ord_get hv (i := mid + m - 1 - c - m) (j := mid + m - 1 - d - m) (by omega) r5
  omega
theorem high (h : SymAt u v a m b mid lo hi) (hu : Ord u) (hv : Ord v) (hab : a < m) (hmb : m < b) {c : Nat} (h1 : lo ≤ c) (h2 : c < hi) (hd : cls ((u ++ v).getD (mid + m - 1 - c - a) 0) < cls ((u ++ v).getD (c - a) 0))
    {d : Nat} (d1 : c ≤ d) (d2 : d < hi) : cls ((u ++ v).getD (mid + m - 1 - d - a) 0) < cls ((u ++ v).getD (d - a) 0) := by
  obtain ⟨l1, l2, l3⟩ := h.left h1 h2 hab hmb
  obtain ⟨r1, r2, r3⟩ := h.right h1 h2 hab hmb
  obtain ⟨l4, l5, l6⟩ := h.left (by omega) d2 hab hmb
  obtain ⟨r4, r5, r6⟩ := h.right (by omega) d2 hab hmb
  rw [l3, r3] at hd
  rw [l6, r6]
  have e1 := ord_get hu (i := c - a) (j := d - a) (by omega) l5
  have e2 := ord_get hv (i := mid + m - 1 - d - m) (j := mid + m - 1 - c - m) (by omega) r2
  omega
/-- Where the search has ended the blocks in between may be exchanged. -/
theorem found (h : SymAt u v a m b mid lo hi) (hu : Ord u) (hv : Ord v) (hab : a < m) (hmb : m < b) {s : Nat} (s1 : lo ≤ s) (s2 : s ≤ hi)
    (H1 : ∀ c, lo ≤ c → c < s → cls ((u ++ v).getD (c - a) 0) ≤ cls ((u ++ v).getD (mid + m - 1 - c - a) 0)) (H2 : ∀ c, s ≤ c → c < hi → cls ((u ++ v).getD (mid + m - 1 - c - a) 0) < cls ((u ++ v).getD (c - a) 0)) :
    (∀ x ∈ u.take (s - a), ∀ y ∈ v.drop (mid - s), cls x ≤ cls y) ∧ (∀ y ∈ v.take (mid - s), ∀ x ∈ u.drop (s - a), cls y < cls x) := by
  have h0 := h
  obtain ⟨h3, h4, h5, h6⟩ := h0
  refine ⟨fun x hx y hy => ?_, fun y hy x hx => ?_⟩
  · obtain ⟨i, i1, i2, rfl⟩ := mem_take_get hx
    obtain ⟨j, j1, j2, rfl⟩ := mem_drop_get hy
    have q1 : lo ≤ s - 1 := by omega
    have q2 : s - 1 < hi := by omega
    have := H1 (s - 1) q1 (by omega)
    obtain ⟨l1, l2, l3⟩ := h.left q1 q2 hab hmb
    obtain ⟨r1, r2, r3⟩ := h.right q1 q2 hab hmb
    rw [l3, r3] at this
    have e1 := ord_get hu (i := i) (j := s - 1 - a) (by omega) l2
    have e2 := ord_get hv (i := mid + m - 1 - (s - 1) - m) (j := j) (by omega) j2
    omega
  · obtain ⟨i, i1, i2, rfl⟩ := mem_drop_get hx
    obtain ⟨j, j1, j2, rfl⟩ := mem_take_get hy
    have q2 : s < hi := by omega
    have := H2 s (Nat.le_refl _) q2
    obtain ⟨l1, l2, l3⟩ := h.left s1 q2 hab hmb
    obtain ⟨r1, r2, r3⟩ := h.right s1 q2 hab hmb
    rw [l3, r3] at this
    have e1 := ord_get hu (i := s - a) (j := i) (by omega) i2
    have e2 := ord_get hv (i := j) (j := mid + m - 1 - s - m) (by omega) r2
    omega
end SymAt

end Go.Proofs.Ytjolmhokeceljaa.Sob

namespace Go.Proofs.Ytjolmhokeceljaa.Sob
set_option linter.unusedVariables false

/-- Each block of b numbers is sorted. -/
def chs (b : Nat) : List Int → List Int
  | [] => []
  | x :: s => srt ((x :: s).take (b - 1 + 1)) ++ chs b ((x :: s).drop (b - 1 + 1))
termination_by s => s.length
decreasing_by simp only [List.length_drop, List.length_cons]; omega
theorem chs_nil (b : Nat) : chs b [] = [] := by rw [chs]
theorem chs_step {b : Nat} (hb : 0 < b) (s : List Int) : chs b s = srt (s.take b) ++ chs b (s.drop b) := by
  cases s with
  | nil => rw [List.drop_nil, List.take_nil, chs_nil]; rfl
  | cons x s =>
    rw [chs, show b - 1 + 1 = b from by omega]
theorem chs_short {b : Nat} (hb : 0 < b) {s : List Int} (h : s.length ≤ b) : chs b s = srt s := by
  rw [chs_step hb, List.take_of_length_le h, List.drop_of_length_le h, chs_nil, List.append_nil]
theorem srt_merge (s : List Int) (b : Nat) : srt (srt (s.take b) ++ srt ((s.drop b).take b)) = srt (s.take (2 * b)) := by
  refine srt_congr ?_
  have e : s.take (2 * b) = s.take b ++ (s.drop b).take b := by
    rw [show 2 * b = b + b by omega, List.take_add]
  rw [e]
  exact Sim.append (srt_sim _) (srt_sim _)
theorem srt_merge_rest {s : List Int} {b : Nat} (h : s.length ≤ 2 * b) : srt (srt (s.take b) ++ srt (s.drop b)) = srt s := by
  refine srt_congr ?_
  have := Sim.append (srt_sim (s.take b)) (srt_sim (s.drop b))
  rwa [List.take_append_drop] at this
theorem chs_len {b : Nat} (hb : 0 < b) : ∀ (n : Nat) (s : List Int), s.length ≤ n → (chs b s).length = s.length := by
  intro n
  induction n with
  | zero => intro s h; obtain rfl := List.eq_nil_of_length_eq_zero (by omega : s.length = 0); rw [chs_nil]
  | succ n ih =>
    intro s h
    by_cases e : s.length ≤ b
    · rw [chs_short hb e, srt_len]
    · rw [chs_step hb, List.length_append, srt_len, ih _ (by rw [List.length_drop]; omega), List.length_take, List.length_drop]
      omega

end Go.Proofs.Ytjolmhokeceljaa.Sob

namespace Go.Proofs.Ytjolmhokeceljaa.Sob

theorem lookM_cases (L : List (Int × List Int)) (c : Int) : lookM L c = [] ∨ ∃ e ∈ L, e.1 = c ∧ lookM L c = e.2 := by
  induction L with
  | nil => exact .inl rfl
  | cons x r ih =>
    obtain ⟨f, l⟩ := x
    by_cases h : f = c
    · exact .inr ⟨(f, l), List.mem_cons_self, h, by simp only [lookM, if_pos h]⟩
    · have e : lookM ((f, l) :: r) c = lookM r c := by simp only [lookM, if_neg h]
      rcases ih with ih | ⟨y, hy, h1, h2⟩
      · exact .inl (e.trans ih)
      · exact .inr ⟨y, List.mem_cons_of_mem _ hy, h1, e.trans h2⟩
theorem foldT_fix : foldT.all (fun e => e.2.all (fun y => decide (fold1 y = [y]))) = true := by decide +kernel
theorem fold1_fix (c y : Int) (h : y ∈ fold1 c) : fold1 y = [y] := by
  unfold fold1 at h
  rcases lookM_cases foldT c with e | ⟨x, hx, _, e⟩
  · have e' : fold c = [] := e
    rw [e'] at h
    simp only [List.mem_singleton] at h
    subst h
    unfold fold1
    rw [e']
  · have e' : fold c = x.2 := e
    have := List.all_eq_true.1 (List.all_eq_true.1 foldT_fix x hx)
    split at h
    · rename_i h0
      simp only [List.mem_singleton] at h
      subst h
      unfold fold1
      rw [h0]
    · rw [e'] at h
      exact of_decide_eq_true (this y h)
theorem foldAll_append (a b : List Int) : foldAll (a ++ b) = foldAll a ++ foldAll b := by simp [foldAll]
theorem foldAll_fix (s : List Int) (h : ∀ y ∈ s, fold1 y = [y]) : foldAll s = s := by
  induction s with
  | nil => rfl
  | cons c s ih =>
    have e1 := h c List.mem_cons_self
    have e2 := ih (fun y hy => h y (List.mem_cons_of_mem _ hy))
    unfold foldAll at e2 ⊢
    rw [List.flatMap_cons, e1, e2]
    rfl
theorem mem_foldAll {s : List Int} {y : Int} (h : y ∈ foldAll s) : fold1 y = [y] := by
  obtain ⟨c, _, hy⟩ := List.mem_flatMap.1 h
  exact fold1_fix c y hy
theorem foldAll_twice (s : List Int) : foldAll (foldAll s) = foldAll s := foldAll_fix _ (fun _ h => mem_foldAll h)

end Go.Proofs.Ytjolmhokeceljaa.Sob

namespace Go.Proofs.Ytjolmhokeceljaa.Sob

theorem pairOf_mem (a b : Int) (L : List (Int × Int × Int)) {c : Int} (h : pairOf a b L = some c) : (c, a, b) ∈ L := by
  induction L with
  | nil => cases h
  | cons e r ih =>
    obtain ⟨n, x, y⟩ := e
    unfold pairOf at h
    split at h
    · rename_i q
      obtain ⟨rfl, rfl⟩ := q
      cases h
      exact List.mem_cons_self
    · exact List.mem_cons_of_mem _ (ih h)
theorem lookR_off (L : List (Int × Int × Int)) (lo hi c : Int) (h : L.all (fun e => decide (e.2.1 < lo) || decide (hi < e.1)) = true) (h0 : lo ≤ c) (h1 : c ≤ hi) : lookR L c = 0 := by
  induction L with
  | nil => rfl
  | cons e r ih =>
    obtain ⟨f, t, v⟩ := e
    simp only [List.all_cons, Bool.and_eq_true, Bool.or_eq_true, decide_eq_true_eq] at h
    unfold lookR
    rw [if_neg (by omega)]
    exact ih h.2
theorem cls_off (lo hi c : Int) (h : classT.all (fun e => decide (e.2.1 < lo) || decide (hi < e.1)) = true) (h0 : lo ≤ c) (h1 : c ≤ hi) : cls c = 0 := by
  unfold cls
  split
  · exact lookR_off _ lo hi c h h0 h1
  · rfl
theorem cls_syl {c : Int} (h0 : 44032 ≤ c) (h1 : c < 55204) : cls c = 0 := cls_off 44032 55203 c (by decide +kernel) h0 (by omega)
theorem cls_jamo {c : Int} (h0 : 4352 ≤ c) (h1 : c < 4608) : cls c = 0 := cls_off 4352 4607 c (by decide +kernel) h0 (by omega)
theorem compT_cls : compT.all (fun e => decide (cls e.1 = 0 ∧ cls e.2.1 = 0)) = true := by decide +kernel
theorem pair_cls {a b c : Int} (h : pair a b = some c) : cls a = 0 ∧ cls c = 0 := by
  have := of_decide_eq_true (List.all_eq_true.1 compT_cls _ (pairOf_mem a b _ h))
  exact ⟨this.2, this.1⟩
theorem join_cls {a b c : Int} (h : join a b = some c) : cls a = 0 ∧ cls c = 0 ∧ cls b = 0 := by
  unfold join at h
  split at h
  · rename_i q
    cases h
    exact ⟨cls_jamo (by omega) (by omega), cls_syl (by omega) (by omega), cls_jamo (by omega) (by omega)⟩
  · split at h
    · rename_i q
      cases h
      exact ⟨cls_syl (by omega) (by omega), cls_syl (by omega) (by omega), cls_jamo (by omega) (by omega)⟩
    · cases h
theorem two_cls {a b c : Int} (h : two a b = some c) : cls a = 0 ∧ cls c = 0 := by
  unfold two at h
  split at h
  · rename_i x e
    cases h
    have := join_cls e
    exact ⟨this.1, this.2.1⟩
  · exact pair_cls h
theorem compose_two (a b : Int) : compose [a, b] = match two a b with
    | some c => [c]
    | none => [a, b] := by
  by_cases z : cls a = 0
  · have e1 : cstep ([], none, []) a = ([], some a, []) := by simp [cstep, cpush, z, crow]
    have e2 : cstep ([], some a, []) b = match two a b with
      | some n => ([], some n, [])
      | none => cpush ([], some a, []) b := by
      cases h : two a b <;> simp [cstep, blocked, h]
    unfold compose
    rw [List.foldl_cons, List.foldl_cons, List.foldl_nil, e1, e2]
    cases h : two a b with
    | some n => rfl
    | none =>
      simp only [cpush]
      split <;> simp [crow]
  · have e1 : cstep ([], none, []) a = ([], none, [a]) := by simp [cstep, cpush, z]
    have e2 : two a b = none := by
      cases h : two a b with
      | none => rfl
      | some c => exact absurd (two_cls h).1 z
    unfold compose
    rw [List.foldl_cons, List.foldl_cons, List.foldl_nil, e1, e2]
    simp only [cstep, cpush]
    split <;> simp [crow]

end Go.Proofs.Ytjolmhokeceljaa.Sob

namespace Go.Proofs.Ytjolmhokeceljaa.Sob

theorem lookR_nonneg (L : List (Int × Int × Int)) (h : L.all (fun e => decide (0 ≤ e.2.2)) = true) (c : Int) : 0 ≤ lookR L c := by
  induction L with
  | nil => exact Int.le_refl 0
  | cons e r ih =>
    obtain ⟨f, t, v⟩ := e
    simp only [List.all_cons, Bool.and_eq_true, decide_eq_true_eq] at h
    unfold lookR
    split
    · exact h.1
    · exact ih h.2
theorem cls_nonneg (c : Int) : 0 ≤ cls c := by
  unfold cls
  split
  · exact lookR_nonneg _ (by decide +kernel) c
  · exact Int.le_refl 0

/-- x goes behind those of a smaller class other than 0. -/
def pins (x : Int) : List Int → List Int
  | [] => [x]
  | y :: l => if cls y ≠ 0 ∧ cls y < cls x then y :: pins x l else x :: y :: l
/-- The canonical order. -/
def put : List Int → List Int
  | [] => []
  | x :: s => pins x (put s)

def zc (c x : Int) : Bool := decide (cls x = 0 ∨ cls x = c)
/-- The numbers of class 0 and of any one class stand in one order. -/
def Eqv (s t : List Int) : Prop := ∀ c, s.filter (zc c) = t.filter (zc c)
theorem Eqv.refl (s : List Int) : Eqv s s := fun _ => rfl
theorem Eqv.of_eq {s t : List Int} (h : s = t) : Eqv s t := h ▸ Eqv.refl s
theorem Eqv.symm {s t : List Int} (h : Eqv s t) : Eqv t s := fun c => (h c).symm
theorem Eqv.trans {s t u : List Int} (h : Eqv s t) (k : Eqv t u) : Eqv s u := fun c => (h c).trans (k c)
theorem Eqv.append {s t s' t' : List Int} (h : Eqv s t) (k : Eqv s' t') : Eqv (s ++ s') (t ++ t') := fun c => by rw [List.filter_append, List.filter_append, h c, k c]
theorem Eqv.cons (x : Int) {s t : List Int} (h : Eqv s t) : Eqv (x :: s) (x :: t) := Eqv.append (Eqv.refl [x]) h
theorem Eqv.swap {x y : Int} (l : List Int) (hx : cls x ≠ 0) (hy : cls y ≠ 0) (h : cls x ≠ cls y) : Eqv (x :: y :: l) (y :: x :: l) := fun c => by
  have e : ¬ (zc c x = true ∧ zc c y = true) := by
    unfold zc
    simp only [decide_eq_true_eq]
    omega
  by_cases q : zc c x = true
  · have r : zc c y = false := by
      cases z : zc c y with
      | false => rfl
      | true => exact absurd ⟨q, z⟩ e
    simp [q, r]
  · have q' : zc c x = false := by simpa using q
    simp [List.filter_cons, q']
/-- c goes to the left over numbers of other classes, none of them 0. -/
theorem Eqv.move {x : Int} {m : List Int} (r : List Int) (hx : cls x ≠ 0) (h : ∀ y ∈ m, cls y ≠ 0 ∧ cls y ≠ cls x) : Eqv (x :: (m ++ r)) (m ++ x :: r) := by
  induction m with
  | nil => exact Eqv.refl _
  | cons y m ih =>
    obtain ⟨h1, h2⟩ := h y List.mem_cons_self
    exact (Eqv.swap (m ++ r) hx h1 (Ne.symm h2)).trans (Eqv.cons y (ih (fun z hz => h z (List.mem_cons_of_mem _ hz))))
theorem Eqv.mem {s t : List Int} (h : Eqv s t) {x : Int} (hx : x ∈ s) : x ∈ t := by
  have : x ∈ s.filter (zc (cls x)) := List.mem_filter.2 ⟨hx, by unfold zc; simp⟩
  rw [h] at this
  exact (List.mem_filter.1 this).1

theorem pins_eqv (x : Int) (l : List Int) : Eqv (pins x l) (x :: l) := by
  induction l with
  | nil => exact Eqv.refl _
  | cons y l ih =>
    unfold pins
    split
    · rename_i q
      have := cls_nonneg y
      exact (Eqv.cons y ih).trans (Eqv.swap l q.1 (by omega) (by omega))
    · exact Eqv.refl _
theorem put_eqv (s : List Int) : Eqv (put s) s := by
  induction s with
  | nil => exact Eqv.refl _
  | cons x s ih => exact (pins_eqv x (put s)).trans (Eqv.cons x ih)

theorem inOrder_cons (a : Int) (l : List Int) : inOrder (a :: l) = true ↔ (∀ b, l.head? = some b → cls b = 0 ∨ cls a ≤ cls b) ∧ inOrder l = true := by
  cases l with
  | nil => simp [inOrder]
  | cons b l => simp [inOrder]
theorem inOrder_tail {a : Int} {l : List Int} (h : inOrder (a :: l) = true) : inOrder l = true := ((inOrder_cons a l).1 h).2
theorem pins_head (x : Int) (l : List Int) {b : Int} (h : (pins x l).head? = some b) : b = x ∨ l.head? = some b := by
  cases l with
  | nil => simp [pins] at h; exact .inl h.symm
  | cons y l =>
    unfold pins at h
    split at h
    · simp at h; right; simp [h]
    · simp at h; exact .inl h.symm
theorem pins_order (x : Int) {l : List Int} (h : inOrder l = true) : inOrder (pins x l) = true := by
  induction l with
  | nil => rfl
  | cons y l ih =>
    obtain ⟨h1, h2⟩ := (inOrder_cons y l).1 h
    unfold pins
    split
    · rename_i q
      refine (inOrder_cons _ _).2 ⟨fun b hb => ?_, ih h2⟩
      rcases pins_head x l hb with rfl | hb
      · right; omega
      · exact h1 b hb
    · rename_i q
      refine (inOrder_cons _ _).2 ⟨fun b hb => ?_, h⟩
      simp at hb
      subst hb
      by_cases z : cls y = 0
      · exact .inl z
      · right
        have : ¬ cls y < cls x := fun r => q ⟨z, r⟩
        omega
theorem put_order (s : List Int) : inOrder (put s) = true := by
  induction s with
  | nil => rfl
  | cons x s ih => exact pins_order x ih

theorem order_first {x : Int} {t : List Int} : ∀ {y : Int} {r : List Int}, inOrder (y :: t) = true → cls x ≠ 0 → (y :: t).filter (zc (cls x)) = x :: r → cls y ≠ 0 → cls y ≤ cls x := by
  induction t with
  | nil =>
    intro y r _ hx e hy
    rw [List.filter_cons] at e
    by_cases q : zc (cls x) y = true
    · unfold zc at q
      simp only [decide_eq_true_eq] at q
      omega
    · rw [if_neg q] at e
      cases e
  | cons z t ih =>
    intro y r ho hx e hy
    rw [List.filter_cons] at e
    by_cases q : zc (cls x) y = true
    · unfold zc at q
      simp only [decide_eq_true_eq] at q
      omega
    · rw [if_neg q] at e
      obtain ⟨h1, h2⟩ := (inOrder_cons y (z :: t)).1 ho
      by_cases hz : cls z = 0
      · rw [List.filter_cons, if_pos (by unfold zc; simp [hz])] at e
        injection e with e1 _
        rw [e1] at hz
        exact absurd hz hx
      · have h3 := h1 z rfl
        have h4 := ih h2 hx e hz
        omega
theorem order_unique {s : List Int} : ∀ {t : List Int}, inOrder s = true → inOrder t = true → Eqv s t → s = t := by
  induction s with
  | nil =>
    intro t _ _ h
    cases t with
    | nil => rfl
    | cons y t =>
      have := h (cls y)
      rw [List.filter_cons, if_pos (by unfold zc; simp)] at this
      cases this
  | cons x s ih =>
    intro t hs ht h
    cases t with
    | nil =>
      have := h (cls x)
      rw [List.filter_cons, if_pos (by unfold zc; simp)] at this
      cases this
    | cons y t =>
      have e1 := h (cls x)
      rw [List.filter_cons, if_pos (by unfold zc; simp)] at e1
      have e2 := h (cls y)
      rw [List.filter_cons (x := y), if_pos (by unfold zc; simp)] at e2
      have exy : x = y := by
        by_cases hy : cls y = 0
        · rw [List.filter_cons, if_pos (by unfold zc; simp [hy])] at e1
          injection e1
        · by_cases hx : cls x = 0
          · rw [List.filter_cons, if_pos (by unfold zc; simp [hx])] at e2
            injection e2
          · have h1 := order_first ht hx e1.symm hy
            have h2 := order_first hs hy e2 hx
            rw [List.filter_cons (x := y), if_pos (by unfold zc; simp; omega)] at e1
            injection e1
      subst exy
      have : Eqv s t := fun c => by
        have := h c
        rw [List.filter_cons, List.filter_cons] at this
        split at this
        · injection this
        · exact this
      rw [ih (inOrder_tail hs) (inOrder_tail ht) this]
theorem put_of {p s : List Int} (hp : inOrder p = true) (h : Eqv p s) : p = put s := order_unique hp (put_order s) (h.trans (put_eqv s).symm)
theorem put_congr {s t : List Int} (h : Eqv s t) : put s = put t := put_of (put_order s) ((put_eqv s).trans h)
theorem put_id {s : List Int} (h : inOrder s = true) : put s = s := (put_of h (Eqv.refl s)).symm
theorem put_put (s : List Int) : put (put s) = put s := put_id (put_order s)
theorem pins_len (x : Int) (l : List Int) : (pins x l).length = l.length + 1 := by
  induction l with
  | nil => rfl
  | cons y l ih =>
    unfold pins
    split
    · simp [ih]
    · rfl
theorem put_len (s : List Int) : (put s).length = s.length := by
  induction s with
  | nil => rfl
  | cons x s ih =>
    unfold put
    rw [pins_len, ih]
    rfl
theorem put_mem {s : List Int} {x : Int} : x ∈ put s ↔ x ∈ s := ⟨fun h => (put_eqv s).mem h, fun h => (put_eqv s).symm.mem h⟩

/-- The list is empty, or its first number is of class 0. -/
def Zh (m : List Int) : Prop := ∀ b, m.head? = some b → cls b = 0
theorem pins_zero {x : Int} (h : cls x = 0) (l : List Int) : pins x l = x :: l := by
  cases l with
  | nil => rfl
  | cons y l =>
    unfold pins
    have := cls_nonneg y
    rw [if_neg (by omega)]
theorem put_zero {x : Int} (h : cls x = 0) (s : List Int) : put (x :: s) = x :: put s := pins_zero h (put s)
theorem Zh.put {m : List Int} (h : Zh m) : Zh (put m) := by
  cases m with
  | nil => exact h
  | cons x m =>
    have hx := h x rfl
    rw [put_zero hx]
    intro b hb
    simp at hb
    subst hb
    exact hx
theorem inOrder_append {a b : List Int} (ha : inOrder a = true) (hb : inOrder b = true) (h : Zh b) : inOrder (a ++ b) = true := by
  induction a with
  | nil => exact hb
  | cons x a ih =>
    obtain ⟨h1, h2⟩ := (inOrder_cons x a).1 ha
    refine (inOrder_cons x (a ++ b)).2 ⟨fun y hy => ?_, ih h2⟩
    cases a with
    | nil => exact .inl (h y hy)
    | cons z a => exact h1 y hy
theorem put_append {a b : List Int} (h : Zh b) : put (a ++ b) = put a ++ put b :=
  (put_of (inOrder_append (put_order a) (put_order b) h.put) (Eqv.append (put_eqv a) (put_eqv b))).symm
theorem pins_run (r : Int) (m : List Int) (hm : Zh m) : ∀ l : List Int, (∀ y ∈ l, cls y ≠ 0) → pins r (l ++ m) = ins r l ++ m := by
  intro l
  induction l with
  | nil =>
    intro _
    cases m with
    | nil => rfl
    | cons x m =>
      have := hm x rfl
      show pins r (x :: m) = _
      unfold pins
      rw [if_neg (by omega)]
      rfl
  | cons y l ih =>
    intro hl
    have hy := hl y List.mem_cons_self
    have := ih (fun z hz => hl z (List.mem_cons_of_mem _ hz))
    show pins r (y :: (l ++ m)) = _
    unfold pins ins
    by_cases q : cls r ≤ cls y
    · rw [if_neg (by omega), if_pos q]; rfl
    · rw [if_pos ⟨hy, by omega⟩, if_neg q, this]; rfl
/-- A run of marks ahead of a number of class 0 is sorted by itself. -/
theorem put_run {R : List Int} (hR : ∀ y ∈ R, cls y ≠ 0) {m : List Int} (hm : Zh m) : put (R ++ m) = srt R ++ put m := by
  induction R with
  | nil => rfl
  | cons r R ih =>
    have e := ih (fun y hy => hR y (List.mem_cons_of_mem _ hy))
    show pins r (put (R ++ m)) = _
    rw [e, pins_run r (put m) hm.put _ (fun y hy => hR y (List.mem_cons_of_mem _ (srt_mem.1 hy)))]
    rfl
theorem put_run_end {R : List Int} (hR : ∀ y ∈ R, cls y ≠ 0) : put R = srt R := by
  have := put_run hR (m := []) (fun b hb => by cases hb)
  simpa [put] using this

end Go.Proofs.Ytjolmhokeceljaa.Sob
