import Derived.Test.YtfnjahjbpaoepaaGreatDoorGk52
import Derived.Test.YtfnjahjbpaoepaaGreatDoorProg
set_option linter.unusedVariables false
set_option maxRecDepth 100000
namespace Go.Proofs.YtfnjahjbpaoepaaGreatDoor
open Go.Gk
def tbl:List (Nat×TI):=[
(2,⟨(.int .i64),1,8,(.int .i64 0)⟩),
(3,⟨(.int .i64),1,8,(.int .i64 0)⟩),
(4,⟨TypeDesc.bool,1,1,(.bool false)⟩),
(5,⟨(.int .u8),1,1,(.int .u8 0)⟩),
(6,⟨(.int .u8),1,1,(.int .u8 0)⟩),
(7,⟨(TypeDesc.struct #[⟨ "x",2,0,false,"","runtime",0⟩,⟨ "y",3,1,false,"","runtime",8⟩,⟨ "signed",4,2,false,"","runtime",16⟩,⟨ "code",6,3,false,"","runtime",17⟩]),4,24,(Value.agg #[.int .i64 0,.int .i64 0,.bool false,.int .u8 0])⟩),
(8,⟨(TypeDesc.struct #[⟨ "x",2,0,false,"","runtime",0⟩,⟨ "y",3,1,false,"","runtime",8⟩,⟨ "signed",4,2,false,"","runtime",16⟩,⟨ "code",6,3,false,"","runtime",17⟩]),4,24,(Value.agg #[.int .i64 0,.int .i64 0,.bool false,.int .u8 0])⟩),
(9,⟨TypeDesc.string,1,16,(.string ⟨#[]⟩)⟩),
(10,⟨TypeDesc.string,1,16,(.string ⟨#[]⟩)⟩),
(11,⟨TypeDesc.string,1,16,(.string ⟨#[]⟩)⟩),
(12,⟨(.int .u64),1,8,(.int .u64 0)⟩),
(13,⟨(TypeDesc.struct #[⟨ "msg",9,0,false,"","runtime",0⟩,⟨ "addr",12,1,false,"","runtime",16⟩]),2,24,(Value.agg #[.string ⟨#[]⟩,.int .u64 0])⟩),
(14,⟨(TypeDesc.struct #[⟨ "msg",9,0,false,"","runtime",0⟩,⟨ "addr",12,1,false,"","runtime",16⟩]),2,24,(Value.agg #[.string ⟨#[]⟩,.int .u64 0])⟩),
(15,⟨(TypeDesc.pointer 376),1,8,(Value.pointer none)⟩),
(16,⟨(TypeDesc.pointer 379),1,8,(Value.pointer none)⟩),
(17,⟨(TypeDesc.pointer 386),1,8,(Value.pointer none)⟩),
(18,⟨(TypeDesc.struct #[⟨ "typ",17,0,false,"","internal/runtime/maps",0⟩]),1,8,(Value.agg #[Value.pointer none])⟩),
(19,⟨(TypeDesc.struct #[⟨ "typ",17,0,false,"","internal/runtime/maps",0⟩]),1,8,(Value.agg #[Value.pointer none])⟩),
(21,⟨(.int .i32),1,4,(.int .i32 0)⟩),
(22,⟨(TypeDesc.slice 3),1,24,(Value.slice none 0 0)⟩),
(23,⟨(TypeDesc.pointer 25),1,8,(Value.pointer none)⟩),
(24,⟨(TypeDesc.struct #[⟨ "L",22,0,false,"","",0⟩,⟨ "at",3,1,false,"","holloway/lanemake",24⟩]),2,32,(Value.agg #[Value.slice none 0 0,.int .i64 0])⟩),
(25,⟨(TypeDesc.struct #[⟨ "L",22,0,false,"","",0⟩,⟨ "at",3,1,false,"","holloway/lanemake",24⟩]),2,32,(Value.agg #[Value.slice none 0 0,.int .i64 0])⟩),
(26,⟨(TypeDesc.slice 43),1,24,(Value.slice none 0 0)⟩),
(28,⟨(.int .i64),1,8,(.int .i64 0)⟩),
(37,⟨(.int .u64),1,8,(.int .u64 0)⟩),
(38,⟨(TypeDesc.struct #[⟨ "Six",4,0,false,"","",0⟩,⟨ "Hi",37,1,false,"","",8⟩,⟨ "Lo",37,2,false,"","",16⟩]),3,24,(Value.agg #[.bool false,.int .u64 0,.int .u64 0])⟩),
(39,⟨(TypeDesc.struct #[⟨ "Six",4,0,false,"","",0⟩,⟨ "Hi",37,1,false,"","",8⟩,⟨ "Lo",37,2,false,"","",16⟩]),3,24,(Value.agg #[.bool false,.int .u64 0,.int .u64 0])⟩),
(40,⟨(TypeDesc.struct #[⟨ "Addr",39,0,false,"","",0⟩,⟨ "Bits",3,3,false,"","",24⟩]),4,32,(Value.agg #[.bool false,.int .u64 0,.int .u64 0,.int .i64 0])⟩),
(41,⟨(TypeDesc.struct #[⟨ "Addr",39,0,false,"","",0⟩,⟨ "Bits",3,3,false,"","",24⟩]),4,32,(Value.agg #[.bool false,.int .u64 0,.int .u64 0,.int .i64 0])⟩),
(42,⟨(TypeDesc.struct #[⟨ "Prefix",41,0,false,"","",0⟩,⟨ "Node",9,4,false,"","",32⟩,⟨ "Weight",3,5,false,"","",48⟩]),6,56,(Value.agg #[.bool false,.int .u64 0,.int .u64 0,.int .i64 0,.string ⟨#[]⟩,.int .i64 0])⟩),
(43,⟨(TypeDesc.struct #[⟨ "Prefix",41,0,false,"","",0⟩,⟨ "Node",9,4,false,"","",32⟩,⟨ "Weight",3,5,false,"","",48⟩]),6,56,(Value.agg #[.bool false,.int .u64 0,.int .u64 0,.int .i64 0,.string ⟨#[]⟩,.int .i64 0])⟩),
(46,⟨(TypeDesc.slice 80),1,24,(Value.slice none 0 0)⟩),
(47,⟨(TypeDesc.struct #[⟨ "Root",9,0,false,"","",0⟩,⟨ "Records",46,1,false,"","",16⟩]),2,40,(Value.agg #[.string ⟨#[]⟩,Value.slice none 0 0])⟩),
(48,⟨(TypeDesc.struct #[⟨ "Root",9,0,false,"","",0⟩,⟨ "Records",46,1,false,"","",16⟩]),2,40,(Value.agg #[.string ⟨#[]⟩,Value.slice none 0 0])⟩),
(56,⟨(TypeDesc.slice 139),1,24,(Value.slice none 0 0)⟩),
(66,⟨(TypeDesc.pointer 167),1,8,(Value.pointer none)⟩),
(69,⟨(TypeDesc.pointer 170),1,8,(Value.pointer none)⟩),
(79,⟨(TypeDesc.struct #[⟨ "Name",9,0,false,"","",0⟩,⟨ "Kind",3,1,false,"","",16⟩,⟨ "Addr",39,2,false,"","",24⟩,⟨ "To",9,5,false,"","",48⟩,⟨ "Words",9,6,false,"","",64⟩,⟨ "Life",3,7,false,"","",80⟩]),8,88,(Value.agg #[.string ⟨#[]⟩,.int .i64 0,.bool false,.int .u64 0,.int .u64 0,.string ⟨#[]⟩,.string ⟨#[]⟩,.int .i64 0])⟩),
(80,⟨(TypeDesc.struct #[⟨ "Name",9,0,false,"","",0⟩,⟨ "Kind",3,1,false,"","",16⟩,⟨ "Addr",39,2,false,"","",24⟩,⟨ "To",9,5,false,"","",48⟩,⟨ "Words",9,6,false,"","",64⟩,⟨ "Life",3,7,false,"","",80⟩]),8,88,(Value.agg #[.string ⟨#[]⟩,.int .i64 0,.bool false,.int .u64 0,.int .u64 0,.string ⟨#[]⟩,.string ⟨#[]⟩,.int .i64 0])⟩),
(84,⟨(TypeDesc.slice 41),1,24,(Value.slice none 0 0)⟩),
(85,⟨(TypeDesc.slice 9),1,24,(Value.slice none 0 0)⟩),
(87,⟨(TypeDesc.pointer 90),1,8,(Value.pointer none)⟩),
(88,⟨(TypeDesc.slice 5),1,24,(Value.slice none 0 0)⟩),
(89,⟨(TypeDesc.struct #[⟨ "addr",87,0,false,"","strings",0⟩,⟨ "buf",88,1,false,"","strings",8⟩]),2,32,(Value.agg #[Value.pointer none,Value.slice none 0 0])⟩),
(90,⟨(TypeDesc.struct #[⟨ "addr",87,0,false,"","strings",0⟩,⟨ "buf",88,1,false,"","strings",8⟩]),2,32,(Value.agg #[Value.pointer none,Value.slice none 0 0])⟩),
(93,⟨(TypeDesc.interface #[("Error",33)]),1,16,(Value.nilIface)⟩),
(116,⟨(TypeDesc.struct #[⟨ "A",9,0,false,"","",0⟩,⟨ "B",9,1,false,"","",16⟩,⟨ "Millis",3,2,false,"","",32⟩]),3,40,(Value.agg #[.string ⟨#[]⟩,.string ⟨#[]⟩,.int .i64 0])⟩),
(117,⟨(TypeDesc.struct #[⟨ "A",9,0,false,"","",0⟩,⟨ "B",9,1,false,"","",16⟩,⟨ "Millis",3,2,false,"","",32⟩]),3,40,(Value.agg #[.string ⟨#[]⟩,.string ⟨#[]⟩,.int .i64 0])⟩),
(118,⟨(TypeDesc.slice 117),1,24,(Value.slice none 0 0)⟩),
(137,⟨(TypeDesc.map 9 3),1,8,(Value.map none)⟩),
(138,⟨(TypeDesc.struct #[⟨ "At",3,0,false,"","",0⟩,⟨ "Server",9,1,false,"","",8⟩,⟨ "No",3,2,false,"","",24⟩,⟨ "Kind",3,3,false,"","",32⟩,⟨ "By",9,4,false,"","",40⟩,⟨ "Node",9,5,false,"","",56⟩,⟨ "Join",9,6,false,"","",72⟩,⟨ "Public",9,7,false,"","",88⟩,⟨ "Name",9,8,false,"","",104⟩,⟨ "Tags",85,9,false,"","",120⟩,⟨ "Until",3,10,false,"","",144⟩,⟨ "Uses",3,11,false,"","",152⟩,⟨ "Ready",4,12,false,"","",160⟩]),13,168,(Value.agg #[.int .i64 0,.string ⟨#[]⟩,.int .i64 0,.int .i64 0,.string ⟨#[]⟩,.string ⟨#[]⟩,.string ⟨#[]⟩,.string ⟨#[]⟩,.string ⟨#[]⟩,Value.slice none 0 0,.int .i64 0,.int .i64 0,.bool false])⟩),
(139,⟨(TypeDesc.struct #[⟨ "At",3,0,false,"","",0⟩,⟨ "Server",9,1,false,"","",8⟩,⟨ "No",3,2,false,"","",24⟩,⟨ "Kind",3,3,false,"","",32⟩,⟨ "By",9,4,false,"","",40⟩,⟨ "Node",9,5,false,"","",56⟩,⟨ "Join",9,6,false,"","",72⟩,⟨ "Public",9,7,false,"","",88⟩,⟨ "Name",9,8,false,"","",104⟩,⟨ "Tags",85,9,false,"","",120⟩,⟨ "Until",3,10,false,"","",144⟩,⟨ "Uses",3,11,false,"","",152⟩,⟨ "Ready",4,12,false,"","",160⟩]),13,168,(Value.agg #[.int .i64 0,.string ⟨#[]⟩,.int .i64 0,.int .i64 0,.string ⟨#[]⟩,.string ⟨#[]⟩,.string ⟨#[]⟩,.string ⟨#[]⟩,.string ⟨#[]⟩,Value.slice none 0 0,.int .i64 0,.int .i64 0,.bool false])⟩),
(143,⟨(TypeDesc.pointer 139),1,8,(Value.pointer none)⟩),
(145,⟨(TypeDesc.slice 85),1,24,(Value.slice none 0 0)⟩),
(160,⟨(TypeDesc.struct #[⟨ "Tag",9,0,false,"","",0⟩,⟨ "Users",85,1,false,"","",16⟩]),2,40,(Value.agg #[.string ⟨#[]⟩,Value.slice none 0 0])⟩),
(161,⟨(TypeDesc.struct #[⟨ "Tag",9,0,false,"","",0⟩,⟨ "Users",85,1,false,"","",16⟩]),2,40,(Value.agg #[.string ⟨#[]⟩,Value.slice none 0 0])⟩),
(162,⟨(TypeDesc.slice 161),1,24,(Value.slice none 0 0)⟩),
(163,⟨(TypeDesc.struct #[⟨ "Users",85,0,false,"","",0⟩,⟨ "Owners",162,1,false,"","",24⟩,⟨ "Life",3,2,false,"","",48⟩,⟨ "Approve",4,3,false,"","",56⟩]),4,64,(Value.agg #[Value.slice none 0 0,Value.slice none 0 0,.int .i64 0,.bool false])⟩),
(164,⟨(TypeDesc.struct #[⟨ "Users",85,0,false,"","",0⟩,⟨ "Owners",162,1,false,"","",24⟩,⟨ "Life",3,2,false,"","",48⟩,⟨ "Approve",4,3,false,"","",56⟩]),4,64,(Value.agg #[Value.slice none 0 0,Value.slice none 0 0,.int .i64 0,.bool false])⟩),
(165,⟨(TypeDesc.slice 177),1,24,(Value.slice none 0 0)⟩),
(166,⟨(TypeDesc.struct #[⟨ "most",3,0,false,"","holloway/name",0⟩,⟨ "now",3,1,false,"","holloway/name",8⟩,⟨ "calls",3,2,false,"","holloway/name",16⟩,⟨ "list",165,3,false,"","holloway/name",24⟩]),4,48,(Value.agg #[.int .i64 0,.int .i64 0,.int .i64 0,Value.slice none 0 0])⟩),
(167,⟨(TypeDesc.struct #[⟨ "most",3,0,false,"","holloway/name",0⟩,⟨ "now",3,1,false,"","holloway/name",8⟩,⟨ "calls",3,2,false,"","holloway/name",16⟩,⟨ "list",165,3,false,"","holloway/name",24⟩]),4,48,(Value.agg #[.int .i64 0,.int .i64 0,.int .i64 0,Value.slice none 0 0])⟩),
(168,⟨(TypeDesc.slice 185),1,24,(Value.slice none 0 0)⟩),
(169,⟨(TypeDesc.struct #[⟨ "most",3,0,false,"","holloway/laneref1",0⟩,⟨ "now",3,1,false,"","holloway/laneref1",8⟩,⟨ "calls",3,2,false,"","holloway/laneref1",16⟩,⟨ "l",168,3,false,"","holloway/laneref1",24⟩]),4,48,(Value.agg #[.int .i64 0,.int .i64 0,.int .i64 0,Value.slice none 0 0])⟩),
(170,⟨(TypeDesc.struct #[⟨ "most",3,0,false,"","holloway/laneref1",0⟩,⟨ "now",3,1,false,"","holloway/laneref1",8⟩,⟨ "calls",3,2,false,"","holloway/laneref1",16⟩,⟨ "l",168,3,false,"","holloway/laneref1",24⟩]),4,48,(Value.agg #[.int .i64 0,.int .i64 0,.int .i64 0,Value.slice none 0 0])⟩),
(173,⟨(TypeDesc.struct #[⟨ "name",9,0,false,"","holloway/name",0⟩,⟨ "kind",3,1,false,"","holloway/name",16⟩]),2,24,(Value.agg #[.string ⟨#[]⟩,.int .i64 0])⟩),
(174,⟨(TypeDesc.struct #[⟨ "name",9,0,false,"","holloway/name",0⟩,⟨ "kind",3,1,false,"","holloway/name",16⟩]),2,24,(Value.agg #[.string ⟨#[]⟩,.int .i64 0])⟩),
(176,⟨(TypeDesc.struct #[⟨ "asking",174,0,true,"","holloway/name",0⟩,⟨ "put",3,2,false,"","holloway/name",24⟩,⟨ "life",3,3,false,"","holloway/name",32⟩,⟨ "used",3,4,false,"","holloway/name",40⟩,⟨ "list",46,5,false,"","holloway/name",48⟩]),6,72,(Value.agg #[.string ⟨#[]⟩,.int .i64 0,.int .i64 0,.int .i64 0,.int .i64 0,Value.slice none 0 0])⟩),
(177,⟨(TypeDesc.struct #[⟨ "asking",174,0,true,"","holloway/name",0⟩,⟨ "put",3,2,false,"","holloway/name",24⟩,⟨ "life",3,3,false,"","holloway/name",32⟩,⟨ "used",3,4,false,"","holloway/name",40⟩,⟨ "list",46,5,false,"","holloway/name",48⟩]),6,72,(Value.agg #[.string ⟨#[]⟩,.int .i64 0,.int .i64 0,.int .i64 0,.int .i64 0,Value.slice none 0 0])⟩),
(184,⟨(TypeDesc.struct #[⟨ "name",9,0,false,"","holloway/laneref1",0⟩,⟨ "kind",3,1,false,"","holloway/laneref1",16⟩,⟨ "at",3,2,false,"","holloway/laneref1",24⟩,⟨ "end",3,3,false,"","holloway/laneref1",32⟩,⟨ "l",46,4,false,"","holloway/laneref1",40⟩,⟨ "used",3,5,false,"","holloway/laneref1",64⟩]),6,72,(Value.agg #[.string ⟨#[]⟩,.int .i64 0,.int .i64 0,.int .i64 0,Value.slice none 0 0,.int .i64 0])⟩),
(185,⟨(TypeDesc.struct #[⟨ "name",9,0,false,"","holloway/laneref1",0⟩,⟨ "kind",3,1,false,"","holloway/laneref1",16⟩,⟨ "at",3,2,false,"","holloway/laneref1",24⟩,⟨ "end",3,3,false,"","holloway/laneref1",32⟩,⟨ "l",46,4,false,"","holloway/laneref1",40⟩,⟨ "used",3,5,false,"","holloway/laneref1",64⟩]),6,72,(Value.agg #[.string ⟨#[]⟩,.int .i64 0,.int .i64 0,.int .i64 0,Value.slice none 0 0,.int .i64 0])⟩),
(190,⟨(TypeDesc.pointer 177),1,8,(Value.pointer none)⟩),
(194,⟨(TypeDesc.pointer 5),1,8,(Value.pointer none)⟩),
(197,⟨(TypeDesc.array 9 3),9,72,(Value.agg #[.int .i64 0,.int .i64 0,.int .i64 0,.int .i64 0,.int .i64 0,.int .i64 0,.int .i64 0,.int .i64 0,.int .i64 0])⟩),
(198,⟨(TypeDesc.array 9 3),9,72,(Value.agg #[.int .i64 0,.int .i64 0,.int .i64 0,.int .i64 0,.int .i64 0,.int .i64 0,.int .i64 0,.int .i64 0,.int .i64 0])⟩),
(213,⟨(.int .u64),1,8,(.int .u64 0)⟩),
(223,⟨(TypeDesc.map 225 4),1,8,(Value.map none)⟩),
(225,⟨(TypeDesc.struct #[⟨ "server",9,0,false,"","holloway/node",0⟩,⟨ "no",3,1,false,"","holloway/node",16⟩]),2,24,(Value.agg #[.string ⟨#[]⟩,.int .i64 0])⟩),
(229,⟨(TypeDesc.map 5 4),1,8,(Value.map none)⟩),
(232,⟨(TypeDesc.map 21 3),1,8,(Value.map none)⟩),
(233,⟨(TypeDesc.map 4 9),1,8,(Value.map none)⟩),
(234,⟨(TypeDesc.map 21 9),1,8,(Value.map none)⟩),
(248,⟨TypeDesc.unsafePointer,1,8,(Value.pointer none)⟩),
(255,⟨(TypeDesc.map 9 258),1,8,(Value.map none)⟩),
(257,⟨(TypeDesc.struct #[⟨ "millis",3,0,false,"","holloway/route",0⟩,⟨ "links",3,1,false,"","holloway/route",8⟩]),2,16,(Value.agg #[.int .i64 0,.int .i64 0])⟩),
(258,⟨(TypeDesc.struct #[⟨ "millis",3,0,false,"","holloway/route",0⟩,⟨ "links",3,1,false,"","holloway/route",8⟩]),2,16,(Value.agg #[.int .i64 0,.int .i64 0])⟩),
(260,⟨(TypeDesc.slice 262),1,24,(Value.slice none 0 0)⟩),
(261,⟨(TypeDesc.struct #[⟨ "to",9,0,false,"","holloway/route",0⟩,⟨ "millis",3,1,false,"","holloway/route",16⟩]),2,24,(Value.agg #[.string ⟨#[]⟩,.int .i64 0])⟩),
(262,⟨(TypeDesc.struct #[⟨ "to",9,0,false,"","holloway/route",0⟩,⟨ "millis",3,1,false,"","holloway/route",16⟩]),2,24,(Value.agg #[.string ⟨#[]⟩,.int .i64 0])⟩),
(266,⟨(TypeDesc.array 8 37),8,64,(Value.agg #[.int .u64 0,.int .u64 0,.int .u64 0,.int .u64 0,.int .u64 0,.int .u64 0,.int .u64 0,.int .u64 0])⟩),
(273,⟨(TypeDesc.array 256 4),256,256,(Value.agg (([.bool false,.bool false,.bool false,.bool false,.bool false,.bool false,.bool false,.bool false,.bool false,.bool false,.bool false,.bool false,.bool false,.bool false,.bool false,.bool false,.bool false,.bool false,.bool false,.bool false,.bool false,.bool false,.bool false,.bool false,.bool false,.bool false,.bool false,.bool false,.bool false,.bool false,.bool false,.bool false,.bool false,.bool false,.bool false,.bool false,.bool false,.bool false,.bool false,.bool false,.bool false,.bool false,.bool false,.bool false,.bool false,.bool false,.bool false,.bool false,.bool false,.bool false,.bool false,.bool false,.bool false,.bool false,.bool false,.bool false,.bool false,.bool false,.bool false,.bool false,.bool false,.bool false,.bool false,.bool false].append [.bool false,.bool false,.bool false,.bool false,.bool false,.bool false,.bool false,.bool false,.bool false,.bool false,.bool false,.bool false,.bool false,.bool false,.bool false,.bool false,.bool false,.bool false,.bool false,.bool false,.bool false,.bool false,.bool false,.bool false,.bool false,.bool false,.bool false,.bool false,.bool false,.bool false,.bool false,.bool false,.bool false,.bool false,.bool false,.bool false,.bool false,.bool false,.bool false,.bool false,.bool false,.bool false,.bool false,.bool false,.bool false,.bool false,.bool false,.bool false,.bool false,.bool false,.bool false,.bool false,.bool false,.bool false,.bool false,.bool false,.bool false,.bool false,.bool false,.bool false,.bool false,.bool false,.bool false,.bool false]).append ([.bool false,.bool false,.bool false,.bool false,.bool false,.bool false,.bool false,.bool false,.bool false,.bool false,.bool false,.bool false,.bool false,.bool false,.bool false,.bool false,.bool false,.bool false,.bool false,.bool false,.bool false,.bool false,.bool false,.bool false,.bool false,.bool false,.bool false,.bool false,.bool false,.bool false,.bool false,.bool false,.bool false,.bool false,.bool false,.bool false,.bool false,.bool false,.bool false,.bool false,.bool false,.bool false,.bool false,.bool false,.bool false,.bool false,.bool false,.bool false,.bool false,.bool false,.bool false,.bool false,.bool false,.bool false,.bool false,.bool false,.bool false,.bool false,.bool false,.bool false,.bool false,.bool false,.bool false,.bool false].append [.bool false,.bool false,.bool false,.bool false,.bool false,.bool false,.bool false,.bool false,.bool false,.bool false,.bool false,.bool false,.bool false,.bool false,.bool false,.bool false,.bool false,.bool false,.bool false,.bool false,.bool false,.bool false,.bool false,.bool false,.bool false,.bool false,.bool false,.bool false,.bool false,.bool false,.bool false,.bool false,.bool false,.bool false,.bool false,.bool false,.bool false,.bool false,.bool false,.bool false,.bool false,.bool false,.bool false,.bool false,.bool false,.bool false,.bool false,.bool false,.bool false,.bool false,.bool false,.bool false,.bool false,.bool false,.bool false,.bool false,.bool false,.bool false,.bool false,.bool false,.bool false,.bool false,.bool false,.bool false])).toArray)⟩),
(274,⟨(TypeDesc.array 256 4),256,256,(Value.agg (([.bool false,.bool false,.bool false,.bool false,.bool false,.bool false,.bool false,.bool false,.bool false,.bool false,.bool false,.bool false,.bool false,.bool false,.bool false,.bool false,.bool false,.bool false,.bool false,.bool false,.bool false,.bool false,.bool false,.bool false,.bool false,.bool false,.bool false,.bool false,.bool false,.bool false,.bool false,.bool false,.bool false,.bool false,.bool false,.bool false,.bool false,.bool false,.bool false,.bool false,.bool false,.bool false,.bool false,.bool false,.bool false,.bool false,.bool false,.bool false,.bool false,.bool false,.bool false,.bool false,.bool false,.bool false,.bool false,.bool false,.bool false,.bool false,.bool false,.bool false,.bool false,.bool false,.bool false,.bool false].append [.bool false,.bool false,.bool false,.bool false,.bool false,.bool false,.bool false,.bool false,.bool false,.bool false,.bool false,.bool false,.bool false,.bool false,.bool false,.bool false,.bool false,.bool false,.bool false,.bool false,.bool false,.bool false,.bool false,.bool false,.bool false,.bool false,.bool false,.bool false,.bool false,.bool false,.bool false,.bool false,.bool false,.bool false,.bool false,.bool false,.bool false,.bool false,.bool false,.bool false,.bool false,.bool false,.bool false,.bool false,.bool false,.bool false,.bool false,.bool false,.bool false,.bool false,.bool false,.bool false,.bool false,.bool false,.bool false,.bool false,.bool false,.bool false,.bool false,.bool false,.bool false,.bool false,.bool false,.bool false]).append ([.bool false,.bool false,.bool false,.bool false,.bool false,.bool false,.bool false,.bool false,.bool false,.bool false,.bool false,.bool false,.bool false,.bool false,.bool false,.bool false,.bool false,.bool false,.bool false,.bool false,.bool false,.bool false,.bool false,.bool false,.bool false,.bool false,.bool false,.bool false,.bool false,.bool false,.bool false,.bool false,.bool false,.bool false,.bool false,.bool false,.bool false,.bool false,.bool false,.bool false,.bool false,.bool false,.bool false,.bool false,.bool false,.bool false,.bool false,.bool false,.bool false,.bool false,.bool false,.bool false,.bool false,.bool false,.bool false,.bool false,.bool false,.bool false,.bool false,.bool false,.bool false,.bool false,.bool false,.bool false].append [.bool false,.bool false,.bool false,.bool false,.bool false,.bool false,.bool false,.bool false,.bool false,.bool false,.bool false,.bool false,.bool false,.bool false,.bool false,.bool false,.bool false,.bool false,.bool false,.bool false,.bool false,.bool false,.bool false,.bool false,.bool false,.bool false,.bool false,.bool false,.bool false,.bool false,.bool false,.bool false,.bool false,.bool false,.bool false,.bool false,.bool false,.bool false,.bool false,.bool false,.bool false,.bool false,.bool false,.bool false,.bool false,.bool false,.bool false,.bool false,.bool false,.bool false,.bool false,.bool false,.bool false,.bool false,.bool false,.bool false,.bool false,.bool false,.bool false,.bool false,.bool false,.bool false,.bool false,.bool false])).toArray)⟩),
(278,⟨(TypeDesc.pointer 274),1,8,(Value.pointer none)⟩),
(283,⟨(.int .u32),1,4,(.int .u32 0)⟩),
(294,⟨(TypeDesc.pointer 9),1,8,(Value.pointer none)⟩),
(295,⟨(TypeDesc.map 21 294),1,8,(Value.map none)⟩),
(326,⟨(TypeDesc.array 256 5),256,256,(Value.agg (([.int .u8 0,.int .u8 0,.int .u8 0,.int .u8 0,.int .u8 0,.int .u8 0,.int .u8 0,.int .u8 0,.int .u8 0,.int .u8 0,.int .u8 0,.int .u8 0,.int .u8 0,.int .u8 0,.int .u8 0,.int .u8 0,.int .u8 0,.int .u8 0,.int .u8 0,.int .u8 0,.int .u8 0,.int .u8 0,.int .u8 0,.int .u8 0,.int .u8 0,.int .u8 0,.int .u8 0,.int .u8 0,.int .u8 0,.int .u8 0,.int .u8 0,.int .u8 0,.int .u8 0,.int .u8 0,.int .u8 0,.int .u8 0,.int .u8 0,.int .u8 0,.int .u8 0,.int .u8 0,.int .u8 0,.int .u8 0,.int .u8 0,.int .u8 0,.int .u8 0,.int .u8 0,.int .u8 0,.int .u8 0,.int .u8 0,.int .u8 0,.int .u8 0,.int .u8 0,.int .u8 0,.int .u8 0,.int .u8 0,.int .u8 0,.int .u8 0,.int .u8 0,.int .u8 0,.int .u8 0,.int .u8 0,.int .u8 0,.int .u8 0,.int .u8 0].append [.int .u8 0,.int .u8 0,.int .u8 0,.int .u8 0,.int .u8 0,.int .u8 0,.int .u8 0,.int .u8 0,.int .u8 0,.int .u8 0,.int .u8 0,.int .u8 0,.int .u8 0,.int .u8 0,.int .u8 0,.int .u8 0,.int .u8 0,.int .u8 0,.int .u8 0,.int .u8 0,.int .u8 0,.int .u8 0,.int .u8 0,.int .u8 0,.int .u8 0,.int .u8 0,.int .u8 0,.int .u8 0,.int .u8 0,.int .u8 0,.int .u8 0,.int .u8 0,.int .u8 0,.int .u8 0,.int .u8 0,.int .u8 0,.int .u8 0,.int .u8 0,.int .u8 0,.int .u8 0,.int .u8 0,.int .u8 0,.int .u8 0,.int .u8 0,.int .u8 0,.int .u8 0,.int .u8 0,.int .u8 0,.int .u8 0,.int .u8 0,.int .u8 0,.int .u8 0,.int .u8 0,.int .u8 0,.int .u8 0,.int .u8 0,.int .u8 0,.int .u8 0,.int .u8 0,.int .u8 0,.int .u8 0,.int .u8 0,.int .u8 0,.int .u8 0]).append ([.int .u8 0,.int .u8 0,.int .u8 0,.int .u8 0,.int .u8 0,.int .u8 0,.int .u8 0,.int .u8 0,.int .u8 0,.int .u8 0,.int .u8 0,.int .u8 0,.int .u8 0,.int .u8 0,.int .u8 0,.int .u8 0,.int .u8 0,.int .u8 0,.int .u8 0,.int .u8 0,.int .u8 0,.int .u8 0,.int .u8 0,.int .u8 0,.int .u8 0,.int .u8 0,.int .u8 0,.int .u8 0,.int .u8 0,.int .u8 0,.int .u8 0,.int .u8 0,.int .u8 0,.int .u8 0,.int .u8 0,.int .u8 0,.int .u8 0,.int .u8 0,.int .u8 0,.int .u8 0,.int .u8 0,.int .u8 0,.int .u8 0,.int .u8 0,.int .u8 0,.int .u8 0,.int .u8 0,.int .u8 0,.int .u8 0,.int .u8 0,.int .u8 0,.int .u8 0,.int .u8 0,.int .u8 0,.int .u8 0,.int .u8 0,.int .u8 0,.int .u8 0,.int .u8 0,.int .u8 0,.int .u8 0,.int .u8 0,.int .u8 0,.int .u8 0].append [.int .u8 0,.int .u8 0,.int .u8 0,.int .u8 0,.int .u8 0,.int .u8 0,.int .u8 0,.int .u8 0,.int .u8 0,.int .u8 0,.int .u8 0,.int .u8 0,.int .u8 0,.int .u8 0,.int .u8 0,.int .u8 0,.int .u8 0,.int .u8 0,.int .u8 0,.int .u8 0,.int .u8 0,.int .u8 0,.int .u8 0,.int .u8 0,.int .u8 0,.int .u8 0,.int .u8 0,.int .u8 0,.int .u8 0,.int .u8 0,.int .u8 0,.int .u8 0,.int .u8 0,.int .u8 0,.int .u8 0,.int .u8 0,.int .u8 0,.int .u8 0,.int .u8 0,.int .u8 0,.int .u8 0,.int .u8 0,.int .u8 0,.int .u8 0,.int .u8 0,.int .u8 0,.int .u8 0,.int .u8 0,.int .u8 0,.int .u8 0,.int .u8 0,.int .u8 0,.int .u8 0,.int .u8 0,.int .u8 0,.int .u8 0,.int .u8 0,.int .u8 0,.int .u8 0,.int .u8 0,.int .u8 0,.int .u8 0,.int .u8 0,.int .u8 0])).toArray)⟩),
(327,⟨(TypeDesc.struct #[⟨ "lo",5,0,false,"","unicode/utf8",0⟩,⟨ "hi",5,1,false,"","unicode/utf8",1⟩]),2,2,(Value.agg #[.int .u8 0,.int .u8 0])⟩),
(328,⟨(TypeDesc.struct #[⟨ "lo",5,0,false,"","unicode/utf8",0⟩,⟨ "hi",5,1,false,"","unicode/utf8",1⟩]),2,2,(Value.agg #[.int .u8 0,.int .u8 0])⟩),
(329,⟨(TypeDesc.array 16 328),32,32,(Value.agg #[.int .u8 0,.int .u8 0,.int .u8 0,.int .u8 0,.int .u8 0,.int .u8 0,.int .u8 0,.int .u8 0,.int .u8 0,.int .u8 0,.int .u8 0,.int .u8 0,.int .u8 0,.int .u8 0,.int .u8 0,.int .u8 0,.int .u8 0,.int .u8 0,.int .u8 0,.int .u8 0,.int .u8 0,.int .u8 0,.int .u8 0,.int .u8 0,.int .u8 0,.int .u8 0,.int .u8 0,.int .u8 0,.int .u8 0,.int .u8 0,.int .u8 0,.int .u8 0])⟩),
(342,⟨(TypeDesc.pointer 3),1,8,(Value.pointer none)⟩),
(346,⟨(TypeDesc.array 65 5),65,65,(Value.agg ([.int .u8 0,.int .u8 0,.int .u8 0,.int .u8 0,.int .u8 0,.int .u8 0,.int .u8 0,.int .u8 0,.int .u8 0,.int .u8 0,.int .u8 0,.int .u8 0,.int .u8 0,.int .u8 0,.int .u8 0,.int .u8 0,.int .u8 0,.int .u8 0,.int .u8 0,.int .u8 0,.int .u8 0,.int .u8 0,.int .u8 0,.int .u8 0,.int .u8 0,.int .u8 0,.int .u8 0,.int .u8 0,.int .u8 0,.int .u8 0,.int .u8 0,.int .u8 0].append [.int .u8 0,.int .u8 0,.int .u8 0,.int .u8 0,.int .u8 0,.int .u8 0,.int .u8 0,.int .u8 0,.int .u8 0,.int .u8 0,.int .u8 0,.int .u8 0,.int .u8 0,.int .u8 0,.int .u8 0,.int .u8 0,.int .u8 0,.int .u8 0,.int .u8 0,.int .u8 0,.int .u8 0,.int .u8 0,.int .u8 0,.int .u8 0,.int .u8 0,.int .u8 0,.int .u8 0,.int .u8 0,.int .u8 0,.int .u8 0,.int .u8 0,.int .u8 0,.int .u8 0]).toArray)⟩),
(357,⟨(TypeDesc.slice 374),1,24,(Value.slice none 0 0)⟩),
(372,⟨(TypeDesc.array 3 21),3,12,(Value.agg #[.int .i32 0,.int .i32 0,.int .i32 0])⟩),
(374,⟨(TypeDesc.struct #[⟨ "Lo",283,0,false,"","",0⟩,⟨ "Hi",283,1,false,"","",4⟩,⟨ "Delta",372,2,false,"","",8⟩]),5,20,(Value.agg #[.int .u32 0,.int .u32 0,.int .i32 0,.int .i32 0,.int .i32 0])⟩),
(376,⟨(TypeDesc.struct #[⟨ "_interface",17,0,false,"","runtime",0⟩,⟨ "concrete",17,1,false,"","runtime",8⟩,⟨ "asserted",17,2,false,"","runtime",16⟩,⟨ "missingMethod",9,3,false,"","runtime",24⟩]),4,40,(Value.agg #[Value.pointer none,Value.pointer none,Value.pointer none,.string ⟨#[]⟩])⟩),
(377,⟨(TypeDesc.array 0 16),0,0,(Value.agg #[])⟩),
(379,⟨(TypeDesc.struct #[⟨ "_",377,0,false,"","runtime",0⟩]),0,0,(Value.agg #[])⟩),
(380,⟨(.int .u8),1,1,(.int .u8 0)⟩),
(381,⟨(.int .u8),1,1,(.int .u8 0)⟩),
(383,⟨(.int .i32),1,4,(.int .i32 0)⟩),
(384,⟨(.int .i32),1,4,(.int .i32 0)⟩),
(386,⟨(TypeDesc.struct #[⟨ "Size_",12,0,false,"","",0⟩,⟨ "PtrBytes",12,1,false,"","",8⟩,⟨ "Hash",283,2,false,"","",16⟩,⟨ "TFlag",380,3,false,"","",20⟩,⟨ "Align_",5,4,false,"","",21⟩,⟨ "FieldAlign_",5,5,false,"","",22⟩,⟨ "Kind_",381,6,false,"","",23⟩,⟨ "Equal",382,7,false,"","",24⟩,⟨ "GCData",194,8,false,"","",32⟩,⟨ "Str",383,9,false,"","",40⟩,⟨ "PtrToThis",384,10,false,"","",44⟩]),11,48,(Value.agg #[.int .u64 0,.int .u64 0,.int .u32 0,.int .u8 0,.int .u8 0,.int .u8 0,.int .u8 0,Value.nilFunc,Value.pointer none,.int .i32 0,.int .i32 0])⟩)]
def Γ(t:TypeId):Option TI:=Gk.look tbl t
theorem hΓ:TOK Tryz.prog Γ:=Gk.Kff _ (
 And.intro ⟨Tryz.underlying2,Tryz.t2,Tryz.type2,rfl,rfl,rfl⟩ (
 And.intro ⟨Tryz.underlying3,Tryz.t3,Tryz.type3,rfl,rfl,rfl⟩ (
 And.intro ⟨Tryz.underlying4,Tryz.t4,Tryz.type4,rfl,rfl,rfl⟩ (
 And.intro ⟨Tryz.underlying5,Tryz.t5,Tryz.type5,rfl,rfl,rfl⟩ (
 And.intro ⟨Tryz.underlying6,Tryz.t6,Tryz.type6,rfl,rfl,rfl⟩ (
 And.intro ⟨Tryz.underlying7,Tryz.t7,Tryz.type7,rfl,rfl,rfl⟩ (
 And.intro ⟨Tryz.underlying8,Tryz.t8,Tryz.type8,rfl,rfl,rfl⟩ (
 And.intro ⟨Tryz.underlying9,Tryz.t9,Tryz.type9,rfl,rfl,rfl⟩ (
 And.intro ⟨Tryz.underlying10,Tryz.t10,Tryz.type10,rfl,rfl,rfl⟩ (
 And.intro ⟨Tryz.underlying11,Tryz.t11,Tryz.type11,rfl,rfl,rfl⟩ (
 And.intro ⟨Tryz.underlying12,Tryz.t12,Tryz.type12,rfl,rfl,rfl⟩ (
 And.intro ⟨Tryz.underlying13,Tryz.t13,Tryz.type13,rfl,rfl,rfl⟩ (
 And.intro ⟨Tryz.underlying14,Tryz.t14,Tryz.type14,rfl,rfl,rfl⟩ (
 And.intro ⟨Tryz.underlying15,Tryz.t15,Tryz.type15,rfl,rfl,rfl⟩ (
 And.intro ⟨Tryz.underlying16,Tryz.t16,Tryz.type16,rfl,rfl,rfl⟩ (
 And.intro ⟨Tryz.underlying17,Tryz.t17,Tryz.type17,rfl,rfl,rfl⟩ (
 And.intro ⟨Tryz.underlying18,Tryz.t18,Tryz.type18,rfl,rfl,rfl⟩ (
 And.intro ⟨Tryz.underlying19,Tryz.t19,Tryz.type19,rfl,rfl,rfl⟩ (
 And.intro ⟨Tryz.underlying21,Tryz.t21,Tryz.type21,rfl,rfl,rfl⟩ (
 And.intro ⟨Tryz.underlying22,Tryz.t22,Tryz.type22,rfl,rfl,rfl⟩ (
 And.intro ⟨Tryz.underlying23,Tryz.t23,Tryz.type23,rfl,rfl,rfl⟩ (
 And.intro ⟨Tryz.underlying24,Tryz.t24,Tryz.type24,rfl,rfl,rfl⟩ (
 And.intro ⟨Tryz.underlying25,Tryz.t25,Tryz.type25,rfl,rfl,rfl⟩ (
 And.intro ⟨Tryz.underlying26,Tryz.t26,Tryz.type26,rfl,rfl,rfl⟩ (
 And.intro ⟨Tryz.underlying28,Tryz.t28,Tryz.type28,rfl,rfl,rfl⟩ (
 And.intro ⟨Tryz.underlying37,Tryz.t37,Tryz.type37,rfl,rfl,rfl⟩ (
 And.intro ⟨Tryz.underlying38,Tryz.t38,Tryz.type38,rfl,rfl,rfl⟩ (
 And.intro ⟨Tryz.underlying39,Tryz.t39,Tryz.type39,rfl,rfl,rfl⟩ (
 And.intro ⟨Tryz.underlying40,Tryz.t40,Tryz.type40,rfl,rfl,rfl⟩ (
 And.intro ⟨Tryz.underlying41,Tryz.t41,Tryz.type41,rfl,rfl,rfl⟩ (
 And.intro ⟨Tryz.underlying42,Tryz.t42,Tryz.type42,rfl,rfl,rfl⟩ (
 And.intro ⟨Tryz.underlying43,Tryz.t43,Tryz.type43,rfl,rfl,rfl⟩ (
 And.intro ⟨Tryz.underlying46,Tryz.t46,Tryz.type46,rfl,rfl,rfl⟩ (
 And.intro ⟨Tryz.underlying47,Tryz.t47,Tryz.type47,rfl,rfl,rfl⟩ (
 And.intro ⟨Tryz.underlying48,Tryz.t48,Tryz.type48,rfl,rfl,rfl⟩ (
 And.intro ⟨Tryz.underlying56,Tryz.t56,Tryz.type56,rfl,rfl,rfl⟩ (
 And.intro ⟨Tryz.underlying66,Tryz.t66,Tryz.type66,rfl,rfl,rfl⟩ (
 And.intro ⟨Tryz.underlying69,Tryz.t69,Tryz.type69,rfl,rfl,rfl⟩ (
 And.intro ⟨Tryz.underlying79,Tryz.t79,Tryz.type79,rfl,rfl,rfl⟩ (
 And.intro ⟨Tryz.underlying80,Tryz.t80,Tryz.type80,rfl,rfl,rfl⟩ (
 And.intro ⟨Tryz.underlying84,Tryz.t84,Tryz.type84,rfl,rfl,rfl⟩ (
 And.intro ⟨Tryz.underlying85,Tryz.t85,Tryz.type85,rfl,rfl,rfl⟩ (
 And.intro ⟨Tryz.underlying87,Tryz.t87,Tryz.type87,rfl,rfl,rfl⟩ (
 And.intro ⟨Tryz.underlying88,Tryz.t88,Tryz.type88,rfl,rfl,rfl⟩ (
 And.intro ⟨Tryz.underlying89,Tryz.t89,Tryz.type89,rfl,rfl,rfl⟩ (
 And.intro ⟨Tryz.underlying90,Tryz.t90,Tryz.type90,rfl,rfl,rfl⟩ (
 And.intro ⟨Tryz.underlying93,Tryz.t93,Tryz.type93,rfl,rfl,rfl⟩ (
 And.intro ⟨Tryz.underlying116,Tryz.t116,Tryz.type116,rfl,rfl,rfl⟩ (
 And.intro ⟨Tryz.underlying117,Tryz.t117,Tryz.type117,rfl,rfl,rfl⟩ (
 And.intro ⟨Tryz.underlying118,Tryz.t118,Tryz.type118,rfl,rfl,rfl⟩ (
 And.intro ⟨Tryz.underlying137,Tryz.t137,Tryz.type137,rfl,rfl,rfl⟩ (
 And.intro ⟨Tryz.underlying138,Tryz.t138,Tryz.type138,rfl,rfl,rfl⟩ (
 And.intro ⟨Tryz.underlying139,Tryz.t139,Tryz.type139,rfl,rfl,rfl⟩ (
 And.intro ⟨Tryz.underlying143,Tryz.t143,Tryz.type143,rfl,rfl,rfl⟩ (
 And.intro ⟨Tryz.underlying145,Tryz.t145,Tryz.type145,rfl,rfl,rfl⟩ (
 And.intro ⟨Tryz.underlying160,Tryz.t160,Tryz.type160,rfl,rfl,rfl⟩ (
 And.intro ⟨Tryz.underlying161,Tryz.t161,Tryz.type161,rfl,rfl,rfl⟩ (
 And.intro ⟨Tryz.underlying162,Tryz.t162,Tryz.type162,rfl,rfl,rfl⟩ (
 And.intro ⟨Tryz.underlying163,Tryz.t163,Tryz.type163,rfl,rfl,rfl⟩ (
 And.intro ⟨Tryz.underlying164,Tryz.t164,Tryz.type164,rfl,rfl,rfl⟩ (
 And.intro ⟨Tryz.underlying165,Tryz.t165,Tryz.type165,rfl,rfl,rfl⟩ (
 And.intro ⟨Tryz.underlying166,Tryz.t166,Tryz.type166,rfl,rfl,rfl⟩ (
 And.intro ⟨Tryz.underlying167,Tryz.t167,Tryz.type167,rfl,rfl,rfl⟩ (
 And.intro ⟨Tryz.underlying168,Tryz.t168,Tryz.type168,rfl,rfl,rfl⟩ (
 And.intro ⟨Tryz.underlying169,Tryz.t169,Tryz.type169,rfl,rfl,rfl⟩ (
 And.intro ⟨Tryz.underlying170,Tryz.t170,Tryz.type170,rfl,rfl,rfl⟩ (
 And.intro ⟨Tryz.underlying173,Tryz.t173,Tryz.type173,rfl,rfl,rfl⟩ (
 And.intro ⟨Tryz.underlying174,Tryz.t174,Tryz.type174,rfl,rfl,rfl⟩ (
 And.intro ⟨Tryz.underlying176,Tryz.t176,Tryz.type176,rfl,rfl,rfl⟩ (
 And.intro ⟨Tryz.underlying177,Tryz.t177,Tryz.type177,rfl,rfl,rfl⟩ (
 And.intro ⟨Tryz.underlying184,Tryz.t184,Tryz.type184,rfl,rfl,rfl⟩ (
 And.intro ⟨Tryz.underlying185,Tryz.t185,Tryz.type185,rfl,rfl,rfl⟩ (
 And.intro ⟨Tryz.underlying190,Tryz.t190,Tryz.type190,rfl,rfl,rfl⟩ (
 And.intro ⟨Tryz.underlying194,Tryz.t194,Tryz.type194,rfl,rfl,rfl⟩ (
 And.intro ⟨Tryz.underlying197,Tryz.t197,Tryz.type197,rfl,rfl,rfl⟩ (
 And.intro ⟨Tryz.underlying198,Tryz.t198,Tryz.type198,rfl,rfl,rfl⟩ (
 And.intro ⟨Tryz.underlying213,Tryz.t213,Tryz.type213,rfl,rfl,rfl⟩ (
 And.intro ⟨Tryz.underlying223,Tryz.t223,Tryz.type223,rfl,rfl,rfl⟩ (
 And.intro ⟨Tryz.underlying225,Tryz.t225,Tryz.type225,rfl,rfl,rfl⟩ (
 And.intro ⟨Tryz.underlying229,Tryz.t229,Tryz.type229,rfl,rfl,rfl⟩ (
 And.intro ⟨Tryz.underlying232,Tryz.t232,Tryz.type232,rfl,rfl,rfl⟩ (
 And.intro ⟨Tryz.underlying233,Tryz.t233,Tryz.type233,rfl,rfl,rfl⟩ (
 And.intro ⟨Tryz.underlying234,Tryz.t234,Tryz.type234,rfl,rfl,rfl⟩ (
 And.intro ⟨Tryz.underlying248,Tryz.t248,Tryz.type248,rfl,rfl,rfl⟩ (
 And.intro ⟨Tryz.underlying255,Tryz.t255,Tryz.type255,rfl,rfl,rfl⟩ (
 And.intro ⟨Tryz.underlying257,Tryz.t257,Tryz.type257,rfl,rfl,rfl⟩ (
 And.intro ⟨Tryz.underlying258,Tryz.t258,Tryz.type258,rfl,rfl,rfl⟩ (
 And.intro ⟨Tryz.underlying260,Tryz.t260,Tryz.type260,rfl,rfl,rfl⟩ (
 And.intro ⟨Tryz.underlying261,Tryz.t261,Tryz.type261,rfl,rfl,rfl⟩ (
 And.intro ⟨Tryz.underlying262,Tryz.t262,Tryz.type262,rfl,rfl,rfl⟩ (
 And.intro ⟨Tryz.underlying266,Tryz.t266,Tryz.type266,rfl,rfl,rfl⟩ (
 And.intro ⟨Tryz.underlying273,Tryz.t273,Tryz.type273,rfl,rfl,rfl⟩ (
 And.intro ⟨Tryz.underlying274,Tryz.t274,Tryz.type274,rfl,rfl,rfl⟩ (
 And.intro ⟨Tryz.underlying278,Tryz.t278,Tryz.type278,rfl,rfl,rfl⟩ (
 And.intro ⟨Tryz.underlying283,Tryz.t283,Tryz.type283,rfl,rfl,rfl⟩ (
 And.intro ⟨Tryz.underlying294,Tryz.t294,Tryz.type294,rfl,rfl,rfl⟩ (
 And.intro ⟨Tryz.underlying295,Tryz.t295,Tryz.type295,rfl,rfl,rfl⟩ (
 And.intro ⟨Tryz.underlying326,Tryz.t326,Tryz.type326,rfl,rfl,rfl⟩ (
 And.intro ⟨Tryz.underlying327,Tryz.t327,Tryz.type327,rfl,rfl,rfl⟩ (
 And.intro ⟨Tryz.underlying328,Tryz.t328,Tryz.type328,rfl,rfl,rfl⟩ (
 And.intro ⟨Tryz.underlying329,Tryz.t329,Tryz.type329,rfl,rfl,rfl⟩ (
 And.intro ⟨Tryz.underlying342,Tryz.t342,Tryz.type342,rfl,rfl,rfl⟩ (
 And.intro ⟨Tryz.underlying346,Tryz.t346,Tryz.type346,rfl,rfl,rfl⟩ (
 And.intro ⟨Tryz.underlying357,Tryz.t357,Tryz.type357,rfl,rfl,rfl⟩ (
 And.intro ⟨Tryz.underlying372,Tryz.t372,Tryz.type372,rfl,rfl,rfl⟩ (
 And.intro ⟨Tryz.underlying374,Tryz.t374,Tryz.type374,rfl,rfl,rfl⟩ (
 And.intro ⟨Tryz.underlying376,Tryz.t376,Tryz.type376,rfl,rfl,rfl⟩ (
 And.intro ⟨Tryz.underlying377,Tryz.t377,Tryz.type377,rfl,rfl,rfl⟩ (
 And.intro ⟨Tryz.underlying379,Tryz.t379,Tryz.type379,rfl,rfl,rfl⟩ (
 And.intro ⟨Tryz.underlying380,Tryz.t380,Tryz.type380,rfl,rfl,rfl⟩ (
 And.intro ⟨Tryz.underlying381,Tryz.t381,Tryz.type381,rfl,rfl,rfl⟩ (
 And.intro ⟨Tryz.underlying383,Tryz.t383,Tryz.type383,rfl,rfl,rfl⟩ (
 And.intro ⟨Tryz.underlying384,Tryz.t384,Tryz.type384,rfl,rfl,rfl⟩ (
 And.intro ⟨Tryz.underlying386,Tryz.t386,Tryz.type386,rfl,rfl,rfl⟩ (trivial)))))))))))))))))))))))))))))))))))))))))))))))))))))))))))))))))))))))))))))))))))))))))))))))))))))))))))))))))))
theorem hmix:Tryz.prog.follows .mixedOrders=true:=by kernel_rfl
end Go.Proofs.YtfnjahjbpaoepaaGreatDoor
