import Derived.Deep.DeepCutAuto
import Derived.Test.YtmadfhgiaonnlaaGreatDoorPk13
set_option linter.unusedVariables false
set_option linter.unusedSimpArgs false
namespace Go.Proofs.YtmadfhgiaonnlaaGreatDoor
namespace Sy
set_option maxRecDepth 100000
def td2:TD:=⟨.int .i64,1,8,[.int .i64 0],false⟩
def td3:TD:=td2
def td4:TD:=⟨.bool,1,1,[.bool false],false⟩
def td5:TD:=⟨.int .u8,1,1,[.int .u8 0],false⟩
def td6:TD:=td5
def td7:TD:=⟨.st [(2,0),(3,1),(4,2),(6,3)],4,24,[.int .i64 0,.int .i64 0,.bool false,.int .u8 0],true⟩
def td8:TD:=td7
def td9:TD:=⟨.str,1,16,[.string ⟨#[]⟩],true⟩
def td10:TD:=td9
def td11:TD:=td9
def td12:TD:=⟨.int .u64,1,8,[.int .u64 0],false⟩
def td13:TD:=⟨.st [(9,0),(12,1)],2,24,[.string ⟨#[]⟩,.int .u64 0],false⟩
def td14:TD:=td13
def td15:TD:=⟨.pt 293,1,8,[.pointer none],false⟩
def td16:TD:=⟨.pt 296,1,8,[.pointer none],false⟩
def td17:TD:=⟨.pt 305,1,8,[.pointer none],false⟩
def td18:TD:=⟨.st [(17,0)],1,8,[.pointer none],false⟩
def td19:TD:=td18
def td21:TD:=⟨.int .i32,1,4,[.int .i32 0],false⟩
def td22:TD:=⟨.sl 36,1,24,[.slice none 0 0],false⟩
def td23:TD:=⟨.sl 156,1,24,[.slice none 0 0],false⟩
def td24:TD:=⟨.st [(3,0),(3,1)],2,16,[.int .i64 0,.int .i64 0],true⟩
def td25:TD:=td24
def td26:TD:=⟨.sl 181,1,24,[.slice none 0 0],false⟩
def td27:TD:=⟨.st [(3,0),(3,1),(3,2),(3,3),(3,4),(9,5),(25,6),(3,8),(3,9),(26,10)],11,112,[.int .i64 0,.int .i64 0,.int .i64 0,.int .i64 0,.int .i64 0,.string ⟨#[]⟩,.int .i64 0,.int .i64 0,.int .i64 0,.int .i64 0,.slice none 0 0],false⟩
def td28:TD:=td27
def td29:TD:=⟨.sl 34,1,24,[.slice none 0 0],false⟩
def td30:TD:=⟨.st [(3,0),(3,1),(3,2),(3,3),(3,4),(3,5),(3,6),(3,7),(9,8),(9,9),(9,10),(4,11),(23,12),(28,13),(29,24)],25,280,[.int .i64 0,.int .i64 0,.int .i64 0,.int .i64 0,.int .i64 0,.int .i64 0,.int .i64 0,.int .i64 0,.string ⟨#[]⟩,.string ⟨#[]⟩,.string ⟨#[]⟩,.bool false,.slice none 0 0,.int .i64 0,.int .i64 0,.int .i64 0,.int .i64 0,.int .i64 0,.string ⟨#[]⟩,.int .i64 0,.int .i64 0,.int .i64 0,.int .i64 0,.slice none 0 0,.slice none 0 0],false⟩
def td31:TD:=td30
def td33:TD:=⟨.st [(9,0),(9,1),(9,2),(3,3),(3,4),(3,5)],6,72,[.string ⟨#[]⟩,.string ⟨#[]⟩,.string ⟨#[]⟩,.int .i64 0,.int .i64 0,.int .i64 0],true⟩
def td34:TD:=td33
def td35:TD:=⟨.st [(3,0),(3,1),(9,2),(9,3),(34,4),(31,10)],35,400,[.int .i64 0,.int .i64 0,.string ⟨#[]⟩,.string ⟨#[]⟩,.string ⟨#[]⟩,.string ⟨#[]⟩,.string ⟨#[]⟩,.int .i64 0,.int .i64 0,.int .i64 0,.int .i64 0,.int .i64 0,.int .i64 0,.int .i64 0,.int .i64 0,.int .i64 0,.int .i64 0,.int .i64 0,.string ⟨#[]⟩,.string ⟨#[]⟩,.string ⟨#[]⟩,.bool false,.slice none 0 0,.int .i64 0,.int .i64 0,.int .i64 0,.int .i64 0,.int .i64 0,.string ⟨#[]⟩,.int .i64 0,.int .i64 0,.int .i64 0,.int .i64 0,.slice none 0 0,.slice none 0 0],false⟩
def td36:TD:=td35
def td38:TD:=⟨.sl 84,1,24,[.slice none 0 0],false⟩
def td39:TD:=⟨.sl 123,1,24,[.slice none 0 0],false⟩
def td40:TD:=⟨.sl 3,1,24,[.slice none 0 0],false⟩
def td41:TD:=⟨.st [(39,0),(40,1)],2,48,[.slice none 0 0,.slice none 0 0],false⟩
def td42:TD:=td41
def td43:TD:=⟨.sl 95,1,24,[.slice none 0 0],false⟩
def td44:TD:=⟨.sl 98,1,24,[.slice none 0 0],false⟩
def td45:TD:=⟨.sl 69,1,24,[.slice none 0 0],false⟩
def td46:TD:=⟨.sl 133,1,24,[.slice none 0 0],false⟩
def td47:TD:=⟨.sl 138,1,24,[.slice none 0 0],false⟩
def td48:TD:=⟨.st [(47,0)],1,24,[.slice none 0 0],false⟩
def td49:TD:=td48
def td50:TD:=⟨.st [(3,0),(38,1),(29,2),(42,3),(3,5),(43,6),(44,7),(45,8),(46,9),(49,10),(3,11),(3,12)],13,248,[.int .i64 0,.slice none 0 0,.slice none 0 0,.slice none 0 0,.slice none 0 0,.int .i64 0,.slice none 0 0,.slice none 0 0,.slice none 0 0,.slice none 0 0,.slice none 0 0,.int .i64 0,.int .i64 0],false⟩
def td51:TD:=td50
def td52:TD:=td2
def td55:TD:=⟨.sl 58,1,24,[.slice none 0 0],false⟩
def td58:TD:=⟨.sl 31,1,24,[.slice none 0 0],false⟩
def td67:TD:=td12
def td68:TD:=⟨.st [(3,0),(3,1),(9,2),(9,3),(9,4),(67,5)],6,72,[.int .i64 0,.int .i64 0,.string ⟨#[]⟩,.string ⟨#[]⟩,.string ⟨#[]⟩,.int .u64 0],true⟩
def td69:TD:=⟨.st [(3,0),(3,1),(9,2),(9,3),(9,4),(67,5)],6,72,[.int .i64 0,.int .i64 0,.string ⟨#[]⟩,.string ⟨#[]⟩,.string ⟨#[]⟩,.int .u64 0],false⟩
def td79:TD:=⟨.st [(51,0),(3,13)],14,256,[.int .i64 0,.slice none 0 0,.slice none 0 0,.slice none 0 0,.slice none 0 0,.int .i64 0,.slice none 0 0,.slice none 0 0,.slice none 0 0,.slice none 0 0,.slice none 0 0,.int .i64 0,.int .i64 0,.int .i64 0],false⟩
def td80:TD:=td79
def td81:TD:=⟨.st [(3,0),(3,1),(3,2),(58,3),(58,4),(3,5),(3,6),(58,7)],8,112,[.int .i64 0,.int .i64 0,.int .i64 0,.slice none 0 0,.slice none 0 0,.int .i64 0,.int .i64 0,.slice none 0 0],false⟩
def td82:TD:=td81
def td83:TD:=⟨.st [(9,0),(4,1),(3,2),(40,3),(3,4),(82,5)],13,176,[.string ⟨#[]⟩,.bool false,.int .i64 0,.slice none 0 0,.int .i64 0,.int .i64 0,.int .i64 0,.int .i64 0,.slice none 0 0,.slice none 0 0,.int .i64 0,.int .i64 0,.slice none 0 0],false⟩
def td84:TD:=td83
def td85:TD:=⟨.pt 84,1,8,[.pointer none],false⟩
def td94:TD:=⟨.st [(9,0),(9,1),(3,2),(3,3),(3,4),(3,5),(9,6),(4,7),(3,8),(23,9)],10,120,[.string ⟨#[]⟩,.string ⟨#[]⟩,.int .i64 0,.int .i64 0,.int .i64 0,.int .i64 0,.string ⟨#[]⟩,.bool false,.int .i64 0,.slice none 0 0],false⟩
def td95:TD:=td94
def td97:TD:=⟨.st [(9,0),(9,1),(3,2),(9,3),(3,4),(3,5),(23,6),(3,7),(3,8),(4,9),(4,10)],11,120,[.string ⟨#[]⟩,.string ⟨#[]⟩,.int .i64 0,.string ⟨#[]⟩,.int .i64 0,.int .i64 0,.slice none 0 0,.int .i64 0,.int .i64 0,.bool false,.bool false],false⟩
def td98:TD:=td97
def td122:TD:=⟨.st [(3,0),(9,1),(9,2),(25,3),(4,5),(67,6),(67,7)],8,80,[.int .i64 0,.string ⟨#[]⟩,.string ⟨#[]⟩,.int .i64 0,.int .i64 0,.bool false,.int .u64 0,.int .u64 0],true⟩
def td123:TD:=td122
def td131:TD:=⟨.sl 174,1,24,[.slice none 0 0],false⟩
def td132:TD:=⟨.st [(9,0),(9,1),(3,2),(25,3),(131,5),(3,6),(3,7)],8,96,[.string ⟨#[]⟩,.string ⟨#[]⟩,.int .i64 0,.int .i64 0,.int .i64 0,.slice none 0 0,.int .i64 0,.int .i64 0],false⟩
def td133:TD:=td132
def td136:TD:=⟨.sl 141,1,24,[.slice none 0 0],false⟩
def td137:TD:=⟨.st [(3,0),(9,1),(9,2),(3,3),(136,4),(3,5),(3,6),(3,7),(3,8)],9,104,[.int .i64 0,.string ⟨#[]⟩,.string ⟨#[]⟩,.int .i64 0,.slice none 0 0,.int .i64 0,.int .i64 0,.int .i64 0,.int .i64 0],false⟩
def td138:TD:=td137
def td140:TD:=⟨.st [(3,0),(3,1),(3,2),(3,3),(3,4),(3,5),(3,6)],7,56,[.int .i64 0,.int .i64 0,.int .i64 0,.int .i64 0,.int .i64 0,.int .i64 0,.int .i64 0],true⟩
def td141:TD:=td140
def td143:TD:=⟨.pt 80,1,8,[.pointer none],false⟩
def td155:TD:=td24
def td156:TD:=td24
def td161:TD:=⟨.ar 2 58,2,48,[.slice none 0 0,.slice none 0 0],false⟩
def td166:TD:=⟨.ar 12 4,12,12,[.bool false,.bool false,.bool false,.bool false,.bool false,.bool false,.bool false,.bool false,.bool false,.bool false,.bool false,.bool false],false⟩
def td170:TD:=⟨.sl 177,1,24,[.slice none 0 0],false⟩
def td171:TD:=⟨.st [(3,0),(3,1),(3,2),(3,3),(3,4),(3,5),(3,6),(3,7),(3,8),(3,9),(3,10)],11,88,[.int .i64 0,.int .i64 0,.int .i64 0,.int .i64 0,.int .i64 0,.int .i64 0,.int .i64 0,.int .i64 0,.int .i64 0,.int .i64 0,.int .i64 0],true⟩
def td172:TD:=td171
def td173:TD:=⟨.st [(170,0),(172,1)],12,112,[.slice none 0 0,.int .i64 0,.int .i64 0,.int .i64 0,.int .i64 0,.int .i64 0,.int .i64 0,.int .i64 0,.int .i64 0,.int .i64 0,.int .i64 0,.int .i64 0],false⟩
def td174:TD:=td173
def td176:TD:=⟨.st [(3,0),(3,1),(3,2),(3,3)],4,32,[.int .i64 0,.int .i64 0,.int .i64 0,.int .i64 0],true⟩
def td177:TD:=td176
def td180:TD:=td24
def td181:TD:=td24
def td183:TD:=⟨.sl 5,1,24,[.slice none 0 0],false⟩
def td187:TD:=⟨.st [(3,0),(183,1)],2,32,[.int .i64 0,.slice none 0 0],false⟩
def td188:TD:=td187
def td189:TD:=⟨.sl 188,1,24,[.slice none 0 0],false⟩
def td199:TD:=⟨.st [(3,0),(3,1),(9,2)],3,32,[.int .i64 0,.int .i64 0,.string ⟨#[]⟩],true⟩
def td200:TD:=td199
def td202:TD:=⟨.sl 9,1,24,[.slice none 0 0],false⟩
def td204:TD:=⟨.st [(9,0),(9,1)],2,32,[.string ⟨#[]⟩,.string ⟨#[]⟩],true⟩
def td205:TD:=td204
def td210:TD:=⟨.ar 24 5,24,24,(List.replicate 24 (.int .u8 0)),false⟩
def td218:TD:=⟨.st [(29,0),(29,1),(29,2),(202,3),(9,4),(3,5)],6,120,[.slice none 0 0,.slice none 0 0,.slice none 0 0,.slice none 0 0,.string ⟨#[]⟩,.int .i64 0],false⟩
def td219:TD:=td218
def td221:TD:=⟨.oth,1,8,[.nilFunc],false⟩
def td222:TD:=⟨.mp 205 4,1,8,[.map none],false⟩
def td228:TD:=td12
def td229:TD:=⟨.st [(67,0),(67,1),(67,2),(67,3)],4,32,[.int .u64 0,.int .u64 0,.int .u64 0,.int .u64 0],true⟩
def td230:TD:=td229
def td235:TD:=⟨.ar 20 67,20,160,[.int .u64 0,.int .u64 0,.int .u64 0,.int .u64 0,.int .u64 0,.int .u64 0,.int .u64 0,.int .u64 0,.int .u64 0,.int .u64 0,.int .u64 0,.int .u64 0,.int .u64 0,.int .u64 0,.int .u64 0,.int .u64 0,.int .u64 0,.int .u64 0,.int .u64 0,.int .u64 0],false⟩
def td236:TD:=⟨.int .u32,1,4,[.int .u32 0],false⟩
def td237:TD:=⟨.ar 65 5,65,65,(List.replicate 65 (.int .u8 0)),false⟩
def td241:TD:=⟨.sl 221,1,24,[.slice none 0 0],false⟩
def td247:TD:=⟨.mp 250 95,1,8,[.map none],false⟩
def td249:TD:=⟨.st [(9,0),(9,1),(3,2)],3,40,[.string ⟨#[]⟩,.string ⟨#[]⟩,.int .i64 0],true⟩
def td250:TD:=td249
def td258:TD:=⟨.pt 230,1,8,[.pointer none],false⟩
def td261:TD:=td229
def td262:TD:=td229
def td280:TD:=⟨.ar 32 5,32,32,(List.replicate 32 (.int .u8 0)),false⟩
def td281:TD:=⟨.ar 64 5,64,64,(List.replicate 64 (.int .u8 0)),false⟩
def td292:TD:=⟨.st [(17,0),(17,1),(17,2),(9,3)],4,40,[.pointer none,.pointer none,.pointer none,.string ⟨#[]⟩],false⟩
def td293:TD:=td292
def td298:TD:=td5
def td299:TD:=td5
def td301:TD:=⟨.pt 5,1,8,[.pointer none],false⟩
def td302:TD:=td21
def td303:TD:=td21
def td304:TD:=⟨.st [(12,0),(12,1),(236,2),(298,3),(5,4),(5,5),(299,6),(300,7),(301,8),(302,9),(303,10)],11,48,[.int .u64 0,.int .u64 0,.int .u32 0,.int .u8 0,.int .u8 0,.int .u8 0,.int .u8 0,.nilFunc,.pointer none,.int .i32 0,.int .i32 0],false⟩
def td305:TD:=td304
def tds:List (Nat×TD):=[(2,td2),(3,td3),(4,td4),(5,td5),(6,td6),(7,td7),(8,td8),(9,td9),(10,td10),(11,td11),(12,td12),(13,td13),(14,td14),(15,td15),(16,td16),(17,td17),(18,td18),(19,td19),(21,td21),(22,td22),(23,td23),(24,td24),(25,td25),(26,td26),(27,td27),(28,td28),(29,td29),(30,td30),(31,td31),(33,td33),(34,td34),(35,td35),(36,td36),(38,td38),(39,td39),(40,td40),(41,td41),(42,td42),(43,td43),(44,td44),(45,td45),(46,td46),(47,td47),(48,td48),(49,td49),(50,td50),(51,td51),(52,td52),(55,td55),(58,td58),(67,td67),(68,td68),(69,td69),(79,td79),(80,td80),(81,td81),(82,td82),(83,td83),(84,td84),(85,td85),(94,td94),(95,td95),(97,td97),(98,td98),(122,td122),(123,td123),(131,td131),(132,td132),(133,td133),(136,td136),(137,td137),(138,td138),(140,td140),(141,td141),(143,td143),(155,td155),(156,td156),(161,td161),(166,td166),(170,td170),(171,td171),(172,td172),(173,td173),(174,td174),(176,td176),(177,td177),(180,td180),(181,td181),(183,td183),(187,td187),(188,td188),(189,td189),(199,td199),(200,td200),(202,td202),(204,td204),(205,td205),(210,td210),(218,td218),(219,td219),(221,td221),(222,td222),(228,td228),(229,td229),(230,td230),(235,td235),(236,td236),(237,td237),(241,td241),(247,td247),(249,td249),(250,td250),(258,td258),(261,td261),(262,td262),(280,td280),(281,td281),(292,td292),(293,td293),(298,td298),(299,td299),(301,td301),(302,td302),(303,td303),(304,td304),(305,td305)]
def tbs:Tab:=[(2,[full .i64]),
 (3,[full .i64]),
 (4,[.bool]),
 (5,[full .u8]),
 (6,[full .u8]),
 (7,[full .i64,full .i64,.bool,full .u8]),
 (8,[full .i64,full .i64,.bool,full .u8]),
 (9,[.str maxLen]),
 (10,[.str maxLen]),
 (11,[.str maxLen]),
 (12,[full .u64]),
 (13,[.str maxLen,full .u64]),
 (14,[.str maxLen,full .u64]),
 (15,[.any]),
 (16,[.any]),
 (17,[.any]),
 (18,[.any]),
 (19,[.any]),
 (21,[full .i32]),
 (22,[.sl 0 36 128]),
 (23,[.sl 0 156 1024]),
 (24,[full .i64,full .i64]),
 (25,[full .i64,full .i64]),
 (26,[.sl 0 181 64]),
 (27,[full .i64,full .i64,full .i64,full .i64,full .i64,.str maxLen,full .i64,full .i64,full .i64,full .i64,.sl 0 181 64]),
 (28,[full .i64,full .i64,full .i64,full .i64,full .i64,.str maxLen,full .i64,full .i64,full .i64,full .i64,.sl 0 181 64]),
 (29,[.sl 0 34 128]),
 (30,[full .i64,full .i64,full .i64,full .i64,full .i64,full .i64,full .i64,full .i64,.str maxLen,.str maxLen,.str maxLen,.bool,.sl 0 156 1024,full .i64,full .i64,full .i64,full .i64,full .i64,.str maxLen,full .i64,full .i64,full .i64,full .i64,.sl 0 181 64,.sl 0 34 128]),
 (31,[full .i64,full .i64,full .i64,full .i64,full .i64,full .i64,full .i64,full .i64,.str maxLen,.str maxLen,.str maxLen,.bool,.sl 0 156 1024,full .i64,full .i64,full .i64,full .i64,full .i64,.str maxLen,full .i64,full .i64,full .i64,full .i64,.sl 0 181 64,.sl 0 34 128]),
 (33,[.str maxLen,.str maxLen,.str maxLen,full .i64,full .i64,full .i64]),
 (34,[.str maxLen,.str maxLen,.str maxLen,full .i64,full .i64,full .i64]),
 (35,[full .i64,full .i64,.str maxLen,.str maxLen,.str maxLen,.str maxLen,.str maxLen,full .i64,full .i64,full .i64,full .i64,full .i64,full .i64,full .i64,full .i64,full .i64,full .i64,full .i64,.str maxLen,.str maxLen,.str maxLen,.bool,.sl 0 156 1024,full .i64,full .i64,full .i64,full .i64,full .i64,.str maxLen,full .i64,full .i64,full .i64,full .i64,.sl 0 181 64,.sl 0 34 128]),
 (36,[full .i64,full .i64,.str maxLen,.str maxLen,.str maxLen,.str maxLen,.str maxLen,full .i64,full .i64,full .i64,full .i64,full .i64,full .i64,full .i64,full .i64,full .i64,full .i64,full .i64,.str maxLen,.str maxLen,.str maxLen,.bool,.sl 0 156 1024,full .i64,full .i64,full .i64,full .i64,full .i64,.str maxLen,full .i64,full .i64,full .i64,full .i64,.sl 0 181 64,.sl 0 34 128]),
 (38,[.sl 0 84 63]),
 (39,[.sl 0 123 1048576]),
 (40,[.sl 0 3 1048576]),
 (41,[.sl 0 123 1048576,.sl 0 3 1048576]),
 (42,[.sl 0 123 1048576,.sl 0 3 1048576]),
 (43,[.sl 0 95 8192]),
 (44,[.sl 0 98 1024]),
 (45,[.sl 0 69 8192]),
 (46,[.sl 0 133 1048576]),
 (47,[.sl 0 138 1048576]),
 (48,[.sl 0 138 1048576]),
 (49,[.sl 0 138 1048576]),
 (50,[full .i64,.sl 0 84 63,.sl 0 34 128,.sl 0 123 1048576,.sl 0 3 1048576,full .i64,.sl 0 95 8192,.sl 0 98 1024,.sl 0 69 8192,.sl 0 133 1048576,.sl 0 138 1048576,full .i64,full .i64]),
 (51,[full .i64,.sl 1 84 63,.sl 1 34 128,.sl 0 123 1048576,.sl 0 3 1048576,full .i64,.sl 1 95 8192,.sl 1 98 1024,.cs 0 69 8192,.sl 1 133 1048576,.sl 0 138 1048576,full .i64,full .i64]),
 (52,[full .i64]),
 (55,[.sl 0 58 64]),
 (58,[.sl 0 31 1024]),
 (67,[full .u64]),
 (68,[full .i64,full .i64,.str maxLen,.str maxLen,.str maxLen,full .u64]),
 (69,[.fz (.int .i64),.fz (.int .i64),.fz .str,.fz .str,.fz .str,.fz (.int .u64)]),
 (79,[full .i64,.sl 1 84 63,.sl 1 34 128,.sl 0 123 1048576,.sl 0 3 1048576,full .i64,.sl 1 95 8192,.sl 1 98 1024,.cs 0 69 8192,.sl 1 133 1048576,.sl 0 138 1048576,full .i64,full .i64,full .i64]),
 (80,[full .i64,.sl 1 84 63,.sl 1 34 128,.sl 0 123 1048576,.sl 0 3 1048576,full .i64,.sl 1 95 8192,.sl 1 98 1024,.cs 0 69 8192,.sl 1 133 1048576,.sl 0 138 1048576,full .i64,full .i64,.idx 12]),
 (81,[full .i64,full .i64,full .i64,.sl 0 31 1024,.sl 0 31 1024,full .i64,full .i64,.sl 0 31 1024]),
 (82,[full .i64,full .i64,full .i64,.sl 1 31 1024,.sl 1 31 1024,full .i64,full .i64,.sl 1 31 1024]),
 (83,[.str maxLen,.bool,full .i64,.sl 0 3 1048576,full .i64,full .i64,full .i64,full .i64,.sl 1 31 1024,.sl 1 31 1024,full .i64,full .i64,.sl 1 31 1024]),
 (84,[.str maxLen,.bool,full .i64,.sl 1 3 1048576,full .i64,full .i64,full .i64,full .i64,.sl 1 31 1024,.sl 1 31 1024,full .i64,full .i64,.sl 1 31 1024]),
 (85,[.any]),
 (94,[.str maxLen,.str maxLen,full .i64,full .i64,full .i64,full .i64,.str maxLen,.bool,full .i64,.sl 0 156 1024]),
 (95,[.str maxLen,.str maxLen,full .i64,full .i64,full .i64,full .i64,.str maxLen,.bool,full .i64,.sl 0 156 1024]),
 (97,[.str maxLen,.str maxLen,full .i64,.str maxLen,full .i64,full .i64,.sl 0 156 1024,full .i64,full .i64,.bool,.bool]),
 (98,[.str maxLen,.str maxLen,full .i64,.str maxLen,full .i64,full .i64,.sl 0 156 1024,full .i64,full .i64,.bool,.bool]),
 (122,[full .i64,.str maxLen,.str maxLen,full .i64,full .i64,.bool,full .u64,full .u64]),
 (123,[full .i64,.str maxLen,.str maxLen,full .i64,full .i64,.bool,full .u64,full .u64]),
 (131,[.sl 0 174 1048576]),
 (132,[.str maxLen,.str maxLen,full .i64,full .i64,full .i64,.sl 0 174 1048576,full .i64,full .i64]),
 (133,[.str maxLen,.str maxLen,full .i64,full .i64,full .i64,.sl 0 174 1048576,full .i64,full .i64]),
 (136,[.sl 0 141 1048576]),
 (137,[full .i64,.str maxLen,.str maxLen,full .i64,.sl 0 141 1048576,full .i64,full .i64,full .i64,full .i64]),
 (138,[full .i64,.str maxLen,.str maxLen,full .i64,.sl 0 141 1048576,full .i64,full .i64,full .i64,full .i64]),
 (140,[full .i64,full .i64,full .i64,full .i64,full .i64,full .i64,full .i64]),
 (141,[full .i64,full .i64,full .i64,full .i64,full .i64,full .i64,full .i64]),
 (143,[.any]),
 (155,[full .i64,full .i64]),
 (156,[full .i64,full .i64]),
 (161,[.sl 0 31 1024,.sl 0 31 1024]),
 (166,[.bool,.bool,.bool,.bool,.bool,.bool,.bool,.bool,.bool,.bool,.bool,.bool]),
 (170,[.sl 0 177 1048576]),
 (171,[full .i64,full .i64,full .i64,full .i64,full .i64,full .i64,full .i64,full .i64,full .i64,full .i64,full .i64]),
 (172,[full .i64,full .i64,full .i64,full .i64,full .i64,full .i64,full .i64,full .i64,full .i64,full .i64,full .i64]),
 (173,[.sl 0 177 1048576,full .i64,full .i64,full .i64,full .i64,full .i64,full .i64,full .i64,full .i64,full .i64,full .i64,full .i64]),
 (174,[.sl 0 177 1048576,full .i64,full .i64,full .i64,full .i64,full .i64,full .i64,full .i64,full .i64,full .i64,full .i64,full .i64]),
 (176,[full .i64,full .i64,full .i64,full .i64]),
 (177,[full .i64,full .i64,full .i64,full .i64]),
 (180,[full .i64,full .i64]),
 (181,[full .i64,full .i64]),
 (183,[.sl 0 5 4294967296]),
 (187,[full .i64,.sl 0 5 4294967296]),
 (188,[full .i64,.sl 0 5 4294967296]),
 (189,[.sl 0 188 256]),
 (199,[full .i64,full .i64,.str maxLen]),
 (200,[full .i64,full .i64,.str maxLen]),
 (202,[.sl 0 9 1048576]),
 (204,[.str maxLen,.str maxLen]),
 (205,[.str maxLen,.str maxLen]),
 (210,(List.replicate 24 (full .u8))),
 (218,[.sl 0 34 128,.sl 0 34 128,.sl 0 34 128,.sl 0 9 1048576,.str maxLen,full .i64]),
 (219,[.sl 0 34 128,.sl 0 34 128,.sl 0 34 128,.sl 0 9 1048576,.str maxLen,full .i64]),
 (221,[.fn [130,131] [(9,218)] []]),
 (222,[.mp 205 4]),
 (228,[full .u64]),
 (229,[full .u64,full .u64,full .u64,full .u64]),
 (230,[full .u64,full .u64,full .u64,full .u64]),
 (235,[full .u64,full .u64,full .u64,full .u64,full .u64,full .u64,full .u64,full .u64,full .u64,full .u64,full .u64,full .u64,full .u64,full .u64,full .u64,full .u64,full .u64,full .u64,full .u64,full .u64]),
 (236,[full .u32]),
 (237,(List.replicate 65 (full .u8))),
 (241,[.sl 0 221 1048576]),
 (247,[.mp 250 95]),
 (249,[.str maxLen,.str maxLen,full .i64]),
 (250,[.str maxLen,.str maxLen,full .i64]),
 (258,[.any]),
 (261,[full .u64,full .u64,full .u64,full .u64]),
 (262,[full .u64,full .u64,full .u64,full .u64]),
 (280,(List.replicate 32 (full .u8))),
 (281,(List.replicate 64 (full .u8))),
 (292,[.any,.any,.any,.str maxLen]),
 (293,[.any,.any,.any,.str maxLen]),
 (298,[full .u8]),
 (299,[full .u8]),
 (301,[.any]),
 (302,[full .i32]),
 (303,[full .i32]),
 (304,[full .u64,full .u64,full .u32,full .u8,full .u8,full .u8,full .u8,.any,.any,full .i32,full .i32]),
 (305,[full .u64,full .u64,full .u32,full .u8,full .u8,full .u8,full .u8,.any,.any,full .i32,full .i32])]
def cx:Cx:=⟨tbs,tds⟩
theorem tdOk2:TdOk Tryz.prog 2 td2:=⟨by kernel_rfl,by kernel_rfl,fun h=>by cases h⟩
theorem tdOk3:TdOk Tryz.prog 3 td3:=⟨by kernel_rfl,by kernel_rfl,fun h=>by cases h⟩
theorem tdOk4:TdOk Tryz.prog 4 td4:=⟨by kernel_rfl,by kernel_rfl,fun h=>by cases h⟩
theorem tdOk5:TdOk Tryz.prog 5 td5:=⟨by kernel_rfl,by kernel_rfl,fun h=>by cases h⟩
theorem tdOk6:TdOk Tryz.prog 6 td6:=⟨by kernel_rfl,by kernel_rfl,fun h=>by cases h⟩
theorem tdOk7:TdOk Tryz.prog 7 td7:=⟨by kernel_rfl,by kernel_rfl,fun _=>⟨by kernel_rfl,by kernel_rfl⟩⟩
theorem tdOk8:TdOk Tryz.prog 8 td8:=⟨by kernel_rfl,by kernel_rfl,fun _=>⟨by kernel_rfl,by kernel_rfl⟩⟩
theorem tdOk9:TdOk Tryz.prog 9 td9:=⟨by kernel_rfl,by kernel_rfl,fun _=>⟨by kernel_rfl,by kernel_rfl⟩⟩
theorem tdOk10:TdOk Tryz.prog 10 td10:=⟨by kernel_rfl,by kernel_rfl,fun _=>⟨by kernel_rfl,by kernel_rfl⟩⟩
theorem tdOk11:TdOk Tryz.prog 11 td11:=⟨by kernel_rfl,by kernel_rfl,fun _=>⟨by kernel_rfl,by kernel_rfl⟩⟩
theorem tdOk12:TdOk Tryz.prog 12 td12:=⟨by kernel_rfl,by kernel_rfl,fun h=>by cases h⟩
theorem tdOk13:TdOk Tryz.prog 13 td13:=⟨by kernel_rfl,by kernel_rfl,fun h=>by cases h⟩
theorem tdOk14:TdOk Tryz.prog 14 td14:=⟨by kernel_rfl,by kernel_rfl,fun h=>by cases h⟩
theorem tdOk15:TdOk Tryz.prog 15 td15:=⟨by kernel_rfl,by kernel_rfl,fun h=>by cases h⟩
theorem tdOk16:TdOk Tryz.prog 16 td16:=⟨by kernel_rfl,by kernel_rfl,fun h=>by cases h⟩
theorem tdOk17:TdOk Tryz.prog 17 td17:=⟨by kernel_rfl,by kernel_rfl,fun h=>by cases h⟩
theorem tdOk18:TdOk Tryz.prog 18 td18:=⟨by kernel_rfl,by kernel_rfl,fun h=>by cases h⟩
theorem tdOk19:TdOk Tryz.prog 19 td19:=⟨by kernel_rfl,by kernel_rfl,fun h=>by cases h⟩
theorem tdOk21:TdOk Tryz.prog 21 td21:=⟨by kernel_rfl,by kernel_rfl,fun h=>by cases h⟩
theorem tdOk22:TdOk Tryz.prog 22 td22:=⟨by kernel_rfl,by kernel_rfl,fun h=>by cases h⟩
theorem tdOk23:TdOk Tryz.prog 23 td23:=⟨by kernel_rfl,by kernel_rfl,fun h=>by cases h⟩
theorem tdOk24:TdOk Tryz.prog 24 td24:=⟨by kernel_rfl,by kernel_rfl,fun _=>⟨by kernel_rfl,by kernel_rfl⟩⟩
theorem tdOk25:TdOk Tryz.prog 25 td25:=⟨by kernel_rfl,by kernel_rfl,fun _=>⟨by kernel_rfl,by kernel_rfl⟩⟩
theorem tdOk26:TdOk Tryz.prog 26 td26:=⟨by kernel_rfl,by kernel_rfl,fun h=>by cases h⟩
theorem tdOk27:TdOk Tryz.prog 27 td27:=⟨by kernel_rfl,by kernel_rfl,fun h=>by cases h⟩
theorem tdOk28:TdOk Tryz.prog 28 td28:=⟨by kernel_rfl,by kernel_rfl,fun h=>by cases h⟩
theorem tdOk29:TdOk Tryz.prog 29 td29:=⟨by kernel_rfl,by kernel_rfl,fun h=>by cases h⟩
theorem tdOk30:TdOk Tryz.prog 30 td30:=⟨by kernel_rfl,by kernel_rfl,fun h=>by cases h⟩
theorem tdOk31:TdOk Tryz.prog 31 td31:=⟨by kernel_rfl,by kernel_rfl,fun h=>by cases h⟩
theorem tdOk33:TdOk Tryz.prog 33 td33:=⟨by kernel_rfl,by kernel_rfl,fun _=>⟨by kernel_rfl,by kernel_rfl⟩⟩
theorem tdOk34:TdOk Tryz.prog 34 td34:=⟨by kernel_rfl,by kernel_rfl,fun _=>⟨by kernel_rfl,by kernel_rfl⟩⟩
theorem tdOk35:TdOk Tryz.prog 35 td35:=⟨by kernel_rfl,by kernel_rfl,fun h=>by cases h⟩
theorem tdOk36:TdOk Tryz.prog 36 td36:=⟨by kernel_rfl,by kernel_rfl,fun h=>by cases h⟩
theorem tdOk38:TdOk Tryz.prog 38 td38:=⟨by kernel_rfl,by kernel_rfl,fun h=>by cases h⟩
theorem tdOk39:TdOk Tryz.prog 39 td39:=⟨by kernel_rfl,by kernel_rfl,fun h=>by cases h⟩
theorem tdOk40:TdOk Tryz.prog 40 td40:=⟨by kernel_rfl,by kernel_rfl,fun h=>by cases h⟩
theorem tdOk41:TdOk Tryz.prog 41 td41:=⟨by kernel_rfl,by kernel_rfl,fun h=>by cases h⟩
theorem tdOk42:TdOk Tryz.prog 42 td42:=⟨by kernel_rfl,by kernel_rfl,fun h=>by cases h⟩
theorem tdOk43:TdOk Tryz.prog 43 td43:=⟨by kernel_rfl,by kernel_rfl,fun h=>by cases h⟩
theorem tdOk44:TdOk Tryz.prog 44 td44:=⟨by kernel_rfl,by kernel_rfl,fun h=>by cases h⟩
theorem tdOk45:TdOk Tryz.prog 45 td45:=⟨by kernel_rfl,by kernel_rfl,fun h=>by cases h⟩
theorem tdOk46:TdOk Tryz.prog 46 td46:=⟨by kernel_rfl,by kernel_rfl,fun h=>by cases h⟩
theorem tdOk47:TdOk Tryz.prog 47 td47:=⟨by kernel_rfl,by kernel_rfl,fun h=>by cases h⟩
theorem tdOk48:TdOk Tryz.prog 48 td48:=⟨by kernel_rfl,by kernel_rfl,fun h=>by cases h⟩
theorem tdOk49:TdOk Tryz.prog 49 td49:=⟨by kernel_rfl,by kernel_rfl,fun h=>by cases h⟩
theorem tdOk50:TdOk Tryz.prog 50 td50:=⟨by kernel_rfl,by kernel_rfl,fun h=>by cases h⟩
theorem tdOk51:TdOk Tryz.prog 51 td51:=⟨by kernel_rfl,by kernel_rfl,fun h=>by cases h⟩
theorem tdOk52:TdOk Tryz.prog 52 td52:=⟨by kernel_rfl,by kernel_rfl,fun h=>by cases h⟩
theorem tdOk55:TdOk Tryz.prog 55 td55:=⟨by kernel_rfl,by kernel_rfl,fun h=>by cases h⟩
theorem tdOk58:TdOk Tryz.prog 58 td58:=⟨by kernel_rfl,by kernel_rfl,fun h=>by cases h⟩
theorem tdOk67:TdOk Tryz.prog 67 td67:=⟨by kernel_rfl,by kernel_rfl,fun h=>by cases h⟩
theorem tdOk68:TdOk Tryz.prog 68 td68:=⟨by kernel_rfl,by kernel_rfl,fun _=>⟨by kernel_rfl,by kernel_rfl⟩⟩
theorem tdOk69:TdOk Tryz.prog 69 td69:=⟨by kernel_rfl,by kernel_rfl,fun h=>by cases h⟩
theorem tdOk79:TdOk Tryz.prog 79 td79:=⟨by kernel_rfl,by kernel_rfl,fun h=>by cases h⟩
theorem tdOk80:TdOk Tryz.prog 80 td80:=⟨by kernel_rfl,by kernel_rfl,fun h=>by cases h⟩
theorem tdOk81:TdOk Tryz.prog 81 td81:=⟨by kernel_rfl,by kernel_rfl,fun h=>by cases h⟩
theorem tdOk82:TdOk Tryz.prog 82 td82:=⟨by kernel_rfl,by kernel_rfl,fun h=>by cases h⟩
theorem tdOk83:TdOk Tryz.prog 83 td83:=⟨by kernel_rfl,by kernel_rfl,fun h=>by cases h⟩
theorem tdOk84:TdOk Tryz.prog 84 td84:=⟨by kernel_rfl,by kernel_rfl,fun h=>by cases h⟩
theorem tdOk85:TdOk Tryz.prog 85 td85:=⟨by kernel_rfl,by kernel_rfl,fun h=>by cases h⟩
theorem tdOk94:TdOk Tryz.prog 94 td94:=⟨by kernel_rfl,by kernel_rfl,fun h=>by cases h⟩
theorem tdOk95:TdOk Tryz.prog 95 td95:=⟨by kernel_rfl,by kernel_rfl,fun h=>by cases h⟩
theorem tdOk97:TdOk Tryz.prog 97 td97:=⟨by kernel_rfl,by kernel_rfl,fun h=>by cases h⟩
theorem tdOk98:TdOk Tryz.prog 98 td98:=⟨by kernel_rfl,by kernel_rfl,fun h=>by cases h⟩
theorem tdOk122:TdOk Tryz.prog 122 td122:=⟨by kernel_rfl,by kernel_rfl,fun _=>⟨by kernel_rfl,by kernel_rfl⟩⟩
theorem tdOk123:TdOk Tryz.prog 123 td123:=⟨by kernel_rfl,by kernel_rfl,fun _=>⟨by kernel_rfl,by kernel_rfl⟩⟩
theorem tdOk131:TdOk Tryz.prog 131 td131:=⟨by kernel_rfl,by kernel_rfl,fun h=>by cases h⟩
theorem tdOk132:TdOk Tryz.prog 132 td132:=⟨by kernel_rfl,by kernel_rfl,fun h=>by cases h⟩
theorem tdOk133:TdOk Tryz.prog 133 td133:=⟨by kernel_rfl,by kernel_rfl,fun h=>by cases h⟩
theorem tdOk136:TdOk Tryz.prog 136 td136:=⟨by kernel_rfl,by kernel_rfl,fun h=>by cases h⟩
theorem tdOk137:TdOk Tryz.prog 137 td137:=⟨by kernel_rfl,by kernel_rfl,fun h=>by cases h⟩
theorem tdOk138:TdOk Tryz.prog 138 td138:=⟨by kernel_rfl,by kernel_rfl,fun h=>by cases h⟩
theorem tdOk140:TdOk Tryz.prog 140 td140:=⟨by kernel_rfl,by kernel_rfl,fun _=>⟨by kernel_rfl,by kernel_rfl⟩⟩
theorem tdOk141:TdOk Tryz.prog 141 td141:=⟨by kernel_rfl,by kernel_rfl,fun _=>⟨by kernel_rfl,by kernel_rfl⟩⟩
theorem tdOk143:TdOk Tryz.prog 143 td143:=⟨by kernel_rfl,by kernel_rfl,fun h=>by cases h⟩
theorem tdOk155:TdOk Tryz.prog 155 td155:=⟨by kernel_rfl,by kernel_rfl,fun _=>⟨by kernel_rfl,by kernel_rfl⟩⟩
theorem tdOk156:TdOk Tryz.prog 156 td156:=⟨by kernel_rfl,by kernel_rfl,fun _=>⟨by kernel_rfl,by kernel_rfl⟩⟩
theorem tdOk161:TdOk Tryz.prog 161 td161:=⟨by kernel_rfl,by kernel_rfl,fun h=>by cases h⟩
theorem tdOk166:TdOk Tryz.prog 166 td166:=⟨by kernel_rfl,by kernel_rfl,fun h=>by cases h⟩
theorem tdOk170:TdOk Tryz.prog 170 td170:=⟨by kernel_rfl,by kernel_rfl,fun h=>by cases h⟩
theorem tdOk171:TdOk Tryz.prog 171 td171:=⟨by kernel_rfl,by kernel_rfl,fun _=>⟨by kernel_rfl,by kernel_rfl⟩⟩
theorem tdOk172:TdOk Tryz.prog 172 td172:=⟨by kernel_rfl,by kernel_rfl,fun _=>⟨by kernel_rfl,by kernel_rfl⟩⟩
theorem tdOk173:TdOk Tryz.prog 173 td173:=⟨by kernel_rfl,by kernel_rfl,fun h=>by cases h⟩
theorem tdOk174:TdOk Tryz.prog 174 td174:=⟨by kernel_rfl,by kernel_rfl,fun h=>by cases h⟩
theorem tdOk176:TdOk Tryz.prog 176 td176:=⟨by kernel_rfl,by kernel_rfl,fun _=>⟨by kernel_rfl,by kernel_rfl⟩⟩
theorem tdOk177:TdOk Tryz.prog 177 td177:=⟨by kernel_rfl,by kernel_rfl,fun _=>⟨by kernel_rfl,by kernel_rfl⟩⟩
theorem tdOk180:TdOk Tryz.prog 180 td180:=⟨by kernel_rfl,by kernel_rfl,fun _=>⟨by kernel_rfl,by kernel_rfl⟩⟩
theorem tdOk181:TdOk Tryz.prog 181 td181:=⟨by kernel_rfl,by kernel_rfl,fun _=>⟨by kernel_rfl,by kernel_rfl⟩⟩
theorem tdOk183:TdOk Tryz.prog 183 td183:=⟨by kernel_rfl,by kernel_rfl,fun h=>by cases h⟩
theorem tdOk187:TdOk Tryz.prog 187 td187:=⟨by kernel_rfl,by kernel_rfl,fun h=>by cases h⟩
theorem tdOk188:TdOk Tryz.prog 188 td188:=⟨by kernel_rfl,by kernel_rfl,fun h=>by cases h⟩
theorem tdOk189:TdOk Tryz.prog 189 td189:=⟨by kernel_rfl,by kernel_rfl,fun h=>by cases h⟩
theorem tdOk199:TdOk Tryz.prog 199 td199:=⟨by kernel_rfl,by kernel_rfl,fun _=>⟨by kernel_rfl,by kernel_rfl⟩⟩
theorem tdOk200:TdOk Tryz.prog 200 td200:=⟨by kernel_rfl,by kernel_rfl,fun _=>⟨by kernel_rfl,by kernel_rfl⟩⟩
theorem tdOk202:TdOk Tryz.prog 202 td202:=⟨by kernel_rfl,by kernel_rfl,fun h=>by cases h⟩
theorem tdOk204:TdOk Tryz.prog 204 td204:=⟨by kernel_rfl,by kernel_rfl,fun _=>⟨by kernel_rfl,by kernel_rfl⟩⟩
theorem tdOk205:TdOk Tryz.prog 205 td205:=⟨by kernel_rfl,by kernel_rfl,fun _=>⟨by kernel_rfl,by kernel_rfl⟩⟩
theorem tdOk210:TdOk Tryz.prog 210 td210:=⟨by kernel_rfl,by kernel_rfl,fun h=>by cases h⟩
theorem tdOk218:TdOk Tryz.prog 218 td218:=⟨by kernel_rfl,by kernel_rfl,fun h=>by cases h⟩
theorem tdOk219:TdOk Tryz.prog 219 td219:=⟨by kernel_rfl,by kernel_rfl,fun h=>by cases h⟩
theorem tdOk221:TdOk Tryz.prog 221 td221:=⟨by kernel_rfl,by kernel_rfl,fun h=>by cases h⟩
theorem tdOk222:TdOk Tryz.prog 222 td222:=⟨by kernel_rfl,by kernel_rfl,fun h=>by cases h⟩
theorem tdOk228:TdOk Tryz.prog 228 td228:=⟨by kernel_rfl,by kernel_rfl,fun h=>by cases h⟩
theorem tdOk229:TdOk Tryz.prog 229 td229:=⟨by kernel_rfl,by kernel_rfl,fun _=>⟨by kernel_rfl,by kernel_rfl⟩⟩
theorem tdOk230:TdOk Tryz.prog 230 td230:=⟨by kernel_rfl,by kernel_rfl,fun _=>⟨by kernel_rfl,by kernel_rfl⟩⟩
theorem tdOk235:TdOk Tryz.prog 235 td235:=⟨by kernel_rfl,by kernel_rfl,fun h=>by cases h⟩
theorem tdOk236:TdOk Tryz.prog 236 td236:=⟨by kernel_rfl,by kernel_rfl,fun h=>by cases h⟩
theorem tdOk237:TdOk Tryz.prog 237 td237:=⟨by kernel_rfl,by kernel_rfl,fun h=>by cases h⟩
theorem tdOk241:TdOk Tryz.prog 241 td241:=⟨by kernel_rfl,by kernel_rfl,fun h=>by cases h⟩
theorem tdOk247:TdOk Tryz.prog 247 td247:=⟨by kernel_rfl,by kernel_rfl,fun h=>by cases h⟩
theorem tdOk249:TdOk Tryz.prog 249 td249:=⟨by kernel_rfl,by kernel_rfl,fun _=>⟨by kernel_rfl,by kernel_rfl⟩⟩
theorem tdOk250:TdOk Tryz.prog 250 td250:=⟨by kernel_rfl,by kernel_rfl,fun _=>⟨by kernel_rfl,by kernel_rfl⟩⟩
theorem tdOk258:TdOk Tryz.prog 258 td258:=⟨by kernel_rfl,by kernel_rfl,fun h=>by cases h⟩
theorem tdOk261:TdOk Tryz.prog 261 td261:=⟨by kernel_rfl,by kernel_rfl,fun _=>⟨by kernel_rfl,by kernel_rfl⟩⟩
theorem tdOk262:TdOk Tryz.prog 262 td262:=⟨by kernel_rfl,by kernel_rfl,fun _=>⟨by kernel_rfl,by kernel_rfl⟩⟩
theorem tdOk280:TdOk Tryz.prog 280 td280:=⟨by kernel_rfl,by kernel_rfl,fun h=>by cases h⟩
theorem tdOk281:TdOk Tryz.prog 281 td281:=⟨by kernel_rfl,by kernel_rfl,fun h=>by cases h⟩
theorem tdOk292:TdOk Tryz.prog 292 td292:=⟨by kernel_rfl,by kernel_rfl,fun h=>by cases h⟩
theorem tdOk293:TdOk Tryz.prog 293 td293:=⟨by kernel_rfl,by kernel_rfl,fun h=>by cases h⟩
theorem tdOk298:TdOk Tryz.prog 298 td298:=⟨by kernel_rfl,by kernel_rfl,fun h=>by cases h⟩
theorem tdOk299:TdOk Tryz.prog 299 td299:=⟨by kernel_rfl,by kernel_rfl,fun h=>by cases h⟩
theorem tdOk301:TdOk Tryz.prog 301 td301:=⟨by kernel_rfl,by kernel_rfl,fun h=>by cases h⟩
theorem tdOk302:TdOk Tryz.prog 302 td302:=⟨by kernel_rfl,by kernel_rfl,fun h=>by cases h⟩
theorem tdOk303:TdOk Tryz.prog 303 td303:=⟨by kernel_rfl,by kernel_rfl,fun h=>by cases h⟩
theorem tdOk304:TdOk Tryz.prog 304 td304:=⟨by kernel_rfl,by kernel_rfl,fun h=>by cases h⟩
theorem tdOk305:TdOk Tryz.prog 305 td305:=⟨by kernel_rfl,by kernel_rfl,fun h=>by cases h⟩
def AllTd(P:Program):List (Nat×TD)→Prop
 | []=>True
 | r::l=>TdOk P r.1 r.2∧AllTd P l
theorem AllTd.mem{P:Program}:∀{l:List (Nat×TD)},AllTd P l→∀t d,(t,d)∈l→TdOk P t d
 | [],_,t,d,h=>by cases h
 | r::l,h,t,d,hm=>by
   rcases List.mem_cons.1 hm with e|hm
   ·cases e;exact h.1
   ·exact h.2.mem t d hm
theorem allTd:AllTd Tryz.prog tds:=⟨tdOk2,tdOk3,tdOk4,tdOk5,tdOk6,tdOk7,tdOk8,tdOk9,tdOk10,tdOk11,tdOk12,tdOk13,tdOk14,tdOk15,tdOk16,tdOk17,tdOk18,tdOk19,tdOk21,tdOk22,tdOk23,tdOk24,tdOk25,tdOk26,tdOk27,tdOk28,tdOk29,tdOk30,tdOk31,tdOk33,tdOk34,tdOk35,tdOk36,tdOk38,tdOk39,tdOk40,tdOk41,tdOk42,tdOk43,tdOk44,tdOk45,tdOk46,tdOk47,tdOk48,tdOk49,tdOk50,tdOk51,tdOk52,tdOk55,tdOk58,tdOk67,tdOk68,tdOk69,tdOk79,tdOk80,tdOk81,tdOk82,tdOk83,tdOk84,tdOk85,tdOk94,tdOk95,tdOk97,tdOk98,tdOk122,tdOk123,tdOk131,tdOk132,tdOk133,tdOk136,tdOk137,tdOk138,tdOk140,tdOk141,tdOk143,tdOk155,tdOk156,tdOk161,tdOk166,tdOk170,tdOk171,tdOk172,tdOk173,tdOk174,tdOk176,tdOk177,tdOk180,tdOk181,tdOk183,tdOk187,tdOk188,tdOk189,tdOk199,tdOk200,tdOk202,tdOk204,tdOk205,tdOk210,tdOk218,tdOk219,tdOk221,tdOk222,tdOk228,tdOk229,tdOk230,tdOk235,tdOk236,tdOk237,tdOk241,tdOk247,tdOk249,tdOk250,tdOk258,tdOk261,tdOk262,tdOk280,tdOk281,tdOk292,tdOk293,tdOk298,tdOk299,tdOk301,tdOk302,tdOk303,tdOk304,tdOk305,trivial⟩
theorem cxOk:CxOk Tryz.prog cx:=⟨fun t d h=>allTd.mem t d (zg h),by kernel_rfl⟩
theorem mixed:Tryz.prog.follows .mixedOrders=true:=by kernel_rfl
open Go.RowKit
section
variable{P:Program}{cx:Cx}{W0:World}{T T':Nat→Prop}{w w' w1:World}
def y7(w:World)(r:Nat)(o:Obj):World:={ w with heap:=w.heap.setIfInBounds r o }
theorem below_setMap{base:Nat}{wb:World}{r:Nat}{o:Obj}(h:Below base wb w)(hr:base≤r):Below base wb (y7 w r o):=
 h.trans ⟨rfl,rfl,rfl,by simp[y7],fun k hk=>by simp only[y7];rw[Array.getElem?_setIfInBounds,if_neg (by omega)]⟩
theorem setMap_at{r:Nat}{o:Obj}(h:r<w.heap.size):(y7 w r o).heap[r]? = some o:=by simp[y7,h]
theorem setMap_other{r k:Nat}{o:Obj}(h:k≠r):(y7 w r o).heap[k]? = w.heap[k]?:=by
 simp only[y7];rw[Array.getElem?_setIfInBounds,if_neg (fun e=>h e.symm)]
theorem keyThatStays_ok(a b:Value):∃k v,(Instr.keyThatStays a b).run P w=.ok v (w.drewN k)∧(v=a∨v=b):=by
 unfold Instr.keyThatStays
 split
 ·exact⟨0,b,rfl,.inr rfl⟩
 ·rw[Sem.run_bind]
  have hc:∃k n,(choose (.extern "map.whichKeyStays" 2)).run P w=.ok n (w.drewN k):=by
   show ∃k n,(Sem.choose _ .pure).run P w=_
   rw[Sem.run]
   split
   ·exact⟨0,_,rfl⟩
   ·exact⟨1,_,rfl⟩
  obtain⟨k,n,hc⟩:=hc
  rw[hc]
  by_cases h0:n=0
  ·exact⟨k,b,by simp[h0],.inr rfl⟩
  ·exact⟨k,a,by simp[h0],.inl rfl⟩
theorem mapUpdate_ok(hcx:CxOk P cx){t kt et:TypeId}{ks:List KD}{d:TD}{fk:List CT}(hm:P.underlying t=some (.map kt et))(hks:leafs cx 30 kt=some ks)(hd:tdOf cx kt=some d)(hag:d.k.agg=true)(hf:cx.tb.flat kt=some fk)(hne:fk.length≠1)(hkf:ctKs ks fk=true)
  {key val:Value} (hk:xq cx.tb W0 T w1 kt key) (hv:xq cx.tb W0 T w1 et val) {r:Nat} {es:Array MapEntry} {c:Nat} (hb:w.heap[r]? = some (.map es c)) (hes:MapT cx.tb W0 T w1 kt et es) :
  ∃k es' c',(Instr.mapUpdate t (.map (some r)) key val).run P w=.ok () (y7 (w.drewN k) r (.map es' c'))∧MapT cx.tb W0 T w1 kt et es':=by
 have hx:=uj hag hf hne hkf hk
 have hck:=checkKey_ok (w:=w) hcx false 30 kt ks d hks hd 10000 _ (by omega) hx
 obtain⟨res,hr1,hr2⟩:=findKey_ok (w:=w) hcx (by decide) hks hd hx es.toList (fun e he=>uj hag hf hne hkf (hes e he).1)
 have hgo:(getObj r).run P w=.ok (.map es c) w:=Go.MapKept.run_getObj_map hb
 have hset:∀k o,(setObj r o).run P (w.drewN k)=.ok () (y7 (w.drewN k) r o):=fun k o=>Go.MapKept.run_setObj_map o (w:=w.drewN k) hb
 cases res with
 | none=>
   refine⟨0,es.push { key,val,born:=c },c+1,?_,fun e he=>?_⟩
   ·have:=hset 0 (.map (es.push { key,val,born:=c }) (c+1))
    simp only[World.drewN,Nat.add_zero] at this
    simp[Instr.mapUpdate,Sem.run_bind,run_underlying hm,hgo,hck,hr1,World.drewN,this]
   ·simp only[Array.toList_push,List.mem_append,List.mem_singleton] at he
    rcases he with he|rfl
    ·exact hes e he
    ·exact⟨hk,hv⟩
 | some jv=>
   obtain⟨i,v0⟩:=jv
   obtain⟨k,kv,hkr,hkv⟩:=keyThatStays_ok (P:=P) (w:=w) (((es[i]?).map (·.key)).getD key) key
   refine⟨k,es.modify i fun e=>{ e with key:=kv,val },c,?_,fun e he=>?_⟩
   ·simp[Instr.mapUpdate,Sem.run_bind,run_underlying hm,hgo,hck,hr1,hkr,hset]
   ·have hpk:xq cx.tb W0 T w1 kt kv:=by
     rcases hkv with rfl|rfl
     ·cases hq:es[i]? with
      | none=>exact hk
      | some e0=>exact(hes e0 (by have:=Array.mem_of_getElem? hq;exact this.val)).1
     ·exact hk
    obtain⟨j,hj,rfl⟩:=List.getElem_of_mem he
    simp only[Array.getElem_toList,Array.getElem_modify]
    split
    ·exact⟨hpk,hv⟩
    ·exact hes _ (by rw[←Array.getElem_toList];exact List.getElem_mem _)
end
open Go.RowKit
section
variable{P:Program}{cx:Cx}{W0:World}{T:Nat→Prop}{w w':World}
theorem zu{tb:Tab}(hw:WT tb W0 T w)(hb:Below w.heap.size w w'):WT tb W0 T w'∧Ext T w T w':=
 hw.frame hb.size (fun b h=>hb.block b (Nat.lt_of_lt_of_le h hw.size)) (fun b h=>hb.block b (hw.lt h)) (fun b es c h=>by rw[hb.block b (by rcases Nat.lt_or_ge b w.heap.size with h1|h1;exact h1;rw[Array.getElem?_eq_none h1] at h;cases h)];exact h)
theorem yx{tb:Tab}{PU:Bool}(hw:WT tb W0 T w)(hb:Below w.heap.size w w'):Hist T w PU T w':=
 ⟨(zu hw hb).2,fun _ h=>.inl h,hb.size,hb.os,hb.tape,hb.output,fun b h _=>hb.block b h⟩
theorem holds_one{f:FuncId}{C:Ctr}{ct:CT}(hE:Enters P f)(hrs:C.rs=[.one ct])(hpost:C.post=[])(hbe:C.be=none)
  (h:∀(T:Nat→Prop) (w:World) (args:List Value),WT cx.tb W0 T w→TyAll cx.tb W0 T w w.heap.size C.ps args→(∀l∈C.pre,0≤l.eval (valOf (cellsAll C.ps args))) →
    Calls P f args.toArray w fun e w'=>∃v,e=.returned v∧CV cx.tb W0 T w' w.heap.size ct v∧Below w.heap.size w w'):Holds P cx W0 f C:=by
 refine⟨hE,fun T w args hw hty hpre=>?_⟩
 have h1:=h T w args.toList hw hty hpre
 rw[Array.toArray_toList] at h1
 refine h1.mono ?_
 rintro e w' ⟨v,rfl,hv,hb⟩
 refine⟨v,[v],T,rfl,by rw[hrs];rfl,by rw[hrs];exact⟨hv,trivial⟩,(fun l hl=>by rw[hpost] at hl;cases hl),(fun e he=>by rw[hbe] at he;cases he),yx hw hb,(zu hw hb).1⟩
theorem Below.of_eq{w w':World}(h:w=w'):Below w.heap.size w w':=h ▸ Below.refl _ _
end
end Sy
namespace Stn
open Go.RowKit
abbrev i (n:Int):Value:=.int .i64 n
end Stn
namespace Stn
open Go.RowKit
theorem info_parts{x:Option TypeInfo}{z:Value}{s b:Nat}(h:x.map (fun i=>(i.zero,i.size,i.bytes))=some (some z,s,b)):∃i,x=some i∧i.zero=some z∧i.size=s∧i.bytes=b:=by
 cases x with
 | none=>cases h
 | some i=>
   simp at h
   exact⟨i,rfl,h.1,h.2.1,h.2.2⟩
end Stn
end Go.Proofs.YtmadfhgiaonnlaaGreatDoor
